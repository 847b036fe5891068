/- Contracts: tables: columns, texts that differ. -/
import Derived.Test.YtpicohffjdndjaaT1
import Derived.Test.YtpicohffjdndjaaLk
set_option linter.unusedSimpArgs false
set_option linter.unusedVariables false
namespace Go.Ev
open Go Go.RowKit Go.Proofs
structure Tb where
  r : Int
  c : List Cl
def tbC (T : Nat) (x : Tb) : List AV := [.v (.int .i64 x.r), .row T 3 (ra clC x.c)]
theorem c_szTable (x : Tb) (left : Nat) (hl : left ≤ 1048576) (hx : x.c.length ≤ 140737488355328) (hb : ∀ b ∈ x.c, b.f.length ≤ 140737488355328) : Meets Try.prog 80 [.agg (tbC 184 x), .v (.int .i64 left)] (fun r => r = .v (.int .i64 (szR left (x.c.length + szL clW x.c)))) := by
  refine Meets.intro mixed (hint []) Try.func80 rfl (by decide) res_80 rty_80 (by kernel_rfl) ?_; 
  simp -dsimp -implicitDefEqProofs only [go_sem, Nat.reduceBEq, Nat.reduceAdd, Nat.reduceLeDiff, Nat.reduceSub, Int.reduceEq, tbC]
  repeat (first | with_reducible refine ask.of (by omega) ?_ | simp -dsimp -implicitDefEqProofs only [go_sem, Nat.reduceBEq, Nat.reduceAdd, Nat.reduceLeDiff, Nat.reduceSub, Int.reduceEq, bleF])
  refine CallE.of (c_szCellS x.c left hl hx hb) (by rintro r rfl; (repeat' first | exact trivial | exact pure_rowB _ | exact pure_rowO _ | exact pure_rowI _ | exact pure_rowBB _ | exact pure_rowPk _ _ | exact pure_rowSn _ _ | exact pure_rowFd _ _ | exact pure_rowCl _ _ | refine And.intro ?_ ?_)) (by simp -dsimp -implicitDefEqProofs only [go_sem, Nat.reduceBEq, Nat.reduceAdd, Nat.reduceLeDiff, Nat.reduceSub, Int.reduceEq, rowCl]) ?_
  rintro r rfl
  simp -dsimp -implicitDefEqProofs only [go_sem, Nat.reduceBEq, Nat.reduceAdd, Nat.reduceLeDiff, Nat.reduceSub, Int.reduceEq, rowCl]
  by_cases h2 : x.c.length + szL clW x.c ≤ left
  · rw [szR_ok h2]
    refine ifB'.of (fun h => by omega) (fun h => ?_)
    simp -dsimp -implicitDefEqProofs only [go_sem, Nat.reduceBEq, Nat.reduceAdd, Nat.reduceLeDiff, Nat.reduceSub, Int.reduceEq]
  · rw [szR_no h2]
    simp -dsimp -implicitDefEqProofs only [go_sem, Nat.reduceBEq, Nat.reduceAdd, Nat.reduceLeDiff, Nat.reduceSub, Int.reduceEq, show decide ((-1 : Int) < 0) = true from rfl]
theorem c_toTable (x : Tb) (hx : x.c.length ≤ 1048576) (hb : ∀ b ∈ x.c, b.f.length ≤ 1048576) : Meets Try.prog 82 [.agg (tbC 184 x)] (fun r => r = .agg (tbC 160 x)) := by
  refine Meets.intro mixed (hint []) Try.func82 rfl (by decide) res_82 rty_82 (by kernel_rfl) ?_; 
  simp -dsimp -implicitDefEqProofs only [go_sem, Nat.reduceBEq, Nat.reduceAdd, Nat.reduceLeDiff, Nat.reduceSub, Int.reduceEq, tbC]
  repeat (first | with_reducible refine ask.of (by omega) ?_ | simp -dsimp -implicitDefEqProofs only [go_sem, Nat.reduceBEq, Nat.reduceAdd, Nat.reduceLeDiff, Nat.reduceSub, Int.reduceEq, bleF])
  refine CallE.of (c_toCellS x.c hx hb) (by rintro r rfl; (repeat' first | exact trivial | exact pure_rowB _ | exact pure_rowO _ | exact pure_rowI _ | exact pure_rowBB _ | exact pure_rowPk _ _ | exact pure_rowSn _ _ | exact pure_rowFd _ _ | exact pure_rowCl _ _ | refine And.intro ?_ ?_)) (by simp -dsimp -implicitDefEqProofs only [go_sem, Nat.reduceBEq, Nat.reduceAdd, Nat.reduceLeDiff, Nat.reduceSub, Int.reduceEq, rowCl]) ?_
  rintro r rfl
  simp -dsimp -implicitDefEqProofs only [go_sem, Nat.reduceBEq, Nat.reduceAdd, Nat.reduceLeDiff, Nat.reduceSub, Int.reduceEq, rowCl]
  repeat (first | with_reducible refine ask.of (by omega) ?_ | simp -dsimp -implicitDefEqProofs only [go_sem, Nat.reduceBEq, Nat.reduceAdd, Nat.reduceLeDiff, Nat.reduceSub, Int.reduceEq, bleF])
theorem c_eqTable (x : Tb) (hx : x.c.length ≤ 1048576) (hb : ∀ b ∈ x.c, b.f.length ≤ 1048576) : Meets Try.prog 83 [.agg (tbC 160 x), .agg (tbC 160 x)] (fun r => r = .v (.bool true)) := by
  refine Meets.intro mixed (hint []) Try.func83 rfl (by decide) res_83 rty_83 (by kernel_rfl) ?_; 
  simp -dsimp -implicitDefEqProofs only [go_sem, Nat.reduceBEq, Nat.reduceAdd, Nat.reduceLeDiff, Nat.reduceSub, Int.reduceEq, tbC, decide_true]
  repeat (first | with_reducible refine ask.of (by omega) ?_ | simp -dsimp -implicitDefEqProofs only [go_sem, Nat.reduceBEq, Nat.reduceAdd, Nat.reduceLeDiff, Nat.reduceSub, Int.reduceEq, bleF, decide_true])
  refine CallE.of (c_eqCellS x.c hx hb) (by rintro r rfl; (repeat' first | exact trivial | exact pure_rowB _ | exact pure_rowO _ | exact pure_rowI _ | exact pure_rowBB _ | exact pure_rowPk _ _ | exact pure_rowSn _ _ | exact pure_rowFd _ _ | exact pure_rowCl _ _ | refine And.intro ?_ ?_)) (by simp -dsimp -implicitDefEqProofs only [go_sem, Nat.reduceBEq, Nat.reduceAdd, Nat.reduceLeDiff, Nat.reduceSub, Int.reduceEq, rowCl, Bool.not_true]) ?_
  rintro r rfl
  simp -dsimp -implicitDefEqProofs only [go_sem, Nat.reduceBEq, Nat.reduceAdd, Nat.reduceLeDiff, Nat.reduceSub, Int.reduceEq, rowCl, Bool.not_true]
/-! ### columns -/
def colL (xs : List Cl) (R i : Nat) : List Cl := (xs.take ((i + 1) * R)).drop (i * R)
theorem wrap_mul {a b : Nat} (h : a * b ≤ 9223372036854775807) : IntKind.i64.wrap ((a : Int) * (b : Int)) = ((a * b : Nat) : Int) := by
  rw [← Int.natCast_mul]; exact wrap_nat h
theorem c_l2column (xs : List Cl) (R i : Nat) (hR : R ≤ 100) (hi : i ≤ 1000) (h : (i + 1) * R ≤ xs.length) : Meets Try.prog 147 [.agg [.v (.int .i64 R), .rd .ent 160 3 (ra clC xs)], .v (.int .i64 i)] (fun r => r = .rd .ent 160 3 (ra clC (colL xs R i))) := by
  have hm : (i + 1) * R ≤ 1001 * 100 := Nat.mul_le_mul (by omega) hR
  have hm1 : i * R ≤ (i + 1) * R := Nat.mul_le_mul_right _ (by omega)
  refine Meets.intro mixed (hint []) Try.func147 rfl (by decide) res_147 rty_147 (by kernel_rfl) ?_; 
  simp -dsimp -implicitDefEqProofs only [go_sem, Nat.reduceBEq, Nat.reduceAdd, Nat.reduceLeDiff, Nat.reduceSub, Int.reduceEq]
  repeat (first | with_reducible refine ask.of (by omega) ?_ | simp -dsimp -implicitDefEqProofs only [go_sem, Nat.reduceBEq, Nat.reduceAdd, Nat.reduceLeDiff, Nat.reduceSub, Int.reduceEq, bleF, wrap_succ (show i < 4611686018427387904 by omega), wrap_mul (show i * R ≤ 9223372036854775807 by omega), wrap_mul (show (i + 1) * R ≤ 9223372036854775807 by omega)])
  rfl
theorem c_column (xs : List Cl) (R i : Nat) (hR : R ≤ 100) (hi : i ≤ 1000) (h : (i + 1) * R ≤ xs.length) : Meets Try.prog 134 [.agg [.v (.int .i64 R), .rd .ent 160 3 (ra clC xs)], .v (.int .i64 i)] (fun r => r = .rd .ent 160 3 (ra clC (colL xs R i))) := by
  have hm : (i + 1) * R ≤ 1001 * 100 := Nat.mul_le_mul (by omega) hR
  have hm1 : i * R ≤ (i + 1) * R := Nat.mul_le_mul_right _ (by omega)
  refine Meets.intro mixed (hint []) Try.func134 rfl (by decide) res_134 rty_134 (by kernel_rfl) ?_; 
  simp -dsimp -implicitDefEqProofs only [go_sem, Nat.reduceBEq, Nat.reduceAdd, Nat.reduceLeDiff, Nat.reduceSub, Int.reduceEq]
  repeat (first | with_reducible refine ask.of (by omega) ?_ | simp -dsimp -implicitDefEqProofs only [go_sem, Nat.reduceBEq, Nat.reduceAdd, Nat.reduceLeDiff, Nat.reduceSub, Int.reduceEq, bleF, wrap_succ (show i < 4611686018427387904 by omega), wrap_mul (show i * R ≤ 9223372036854775807 by omega), wrap_mul (show (i + 1) * R ≤ 9223372036854775807 by omega)])
  rfl
theorem colL_length {xs : List Cl} {R i : Nat} (h : (i + 1) * R ≤ xs.length) : (colL xs R i).length = R := by
  have : (i + 1) * R = i * R + R := by rw [Nat.add_mul, Nat.one_mul]
  simp [colL]; omega
theorem colL_mem {xs : List Cl} {R i : Nat} {c : Cl} (h : c ∈ colL xs R i) : c ∈ xs := List.mem_of_mem_take (List.mem_of_mem_drop h)
theorem colL_sz {xs : List Cl} {R i : Nat} : szL clW (xs.take (i * R)) + szL clW (colL xs R i) = szL clW (xs.take ((i + 1) * R)) := by
  have hm1 : i * R ≤ (i + 1) * R := Nat.mul_le_mul_right _ (by omega)
  have e : xs.take ((i + 1) * R) = xs.take (i * R) ++ colL xs R i := by
    have := List.take_append_drop (i * R) (xs.take ((i + 1) * R))
    rw [List.take_take, Nat.min_eq_left hm1] at this
    exact this.symm
  rw [e]
  simp [szL]
/-! ### texts that differ -/
def dstep (acc : List (List UInt8)) (c : Cl) : List (List UInt8) := if c.z = false ∧ c.f ∉ acc then acc ++ [c.f] else acc
def dst (xs : List Cl) : List (List UInt8) := xs.foldl dstep []
theorem dst_succ {xs : List Cl} {i : Nat} (h : i < xs.length) : dst (xs.take (i + 1)) = dstep (dst (xs.take i)) xs[i] := by
  rw [List.take_succ_eq_append_getElem h, dst, List.foldl_append]; rfl
theorem dstep_le (acc : List (List UInt8)) (c : Cl) : acc.length ≤ (dstep acc c).length := by
  unfold dstep; split <;> simp
theorem foldl_le : ∀ (xs : List Cl) (acc : List (List UInt8)), acc.length ≤ (xs.foldl dstep acc).length
  | [], acc => Nat.le_refl _
  | x :: xs, acc => Nat.le_trans (dstep_le acc x) (foldl_le xs _)
theorem dst_le (xs : List Cl) (i : Nat) : (dst (xs.take i)).length ≤ (dst xs).length := by
  have e : dst xs = (xs.drop i).foldl dstep (dst (xs.take i)) := by
    unfold dst
    rw [← List.foldl_append, List.take_append_drop]
  rw [e]; exact foldl_le _ _
theorem dst_len (xs : List Cl) : ∀ i, i ≤ xs.length → (dst (xs.take i)).length ≤ i
  | 0, _ => by simp [dst]
  | i + 1, h => by
    rw [dst_succ (by omega)]
    have := dst_len xs i (by omega)
    unfold dstep; split <;> simp <;> omega
theorem dst_mem {xs : List Cl} : ∀ {i : Nat} {b : List UInt8}, i ≤ xs.length → b ∈ dst (xs.take i) → ∃ c ∈ xs, c.f = b
  | 0, b, _, h => by simp [dst] at h
  | i + 1, b, hi, h => by
    rw [dst_succ (by omega)] at h
    unfold dstep at h
    split at h
    · rcases List.mem_append.1 h with h | h
      · exact dst_mem (by omega) h
      · exact ⟨_, List.getElem_mem (by omega), (List.mem_singleton.1 h).symm⟩
    · exact dst_mem (by omega) h
theorem dstep_no {acc : List (List UInt8)} {c : Cl} (h : ¬ (c.z = false ∧ c.f ∉ acc)) : dstep acc c = acc := if_neg h
theorem dstep_yes {acc : List (List UInt8)} {c : Cl} (h : c.z = false ∧ c.f ∉ acc) : dstep acc c = acc ++ [c.f] := if_pos h
theorem c_l2placeE (xs : List (List UInt8)) (t : List UInt8) (hx : xs.length ≤ 1048576) (hb : ∀ b ∈ xs, b.length ≤ 140737488355328) (ht : t.length ≤ 140737488355328) : Meets Try.prog 85 [rowBE xs, rowB t] (fun r => r = .v (.int .i64 (plI xs t))) :=
  Meets.look (bs := [rowBB xs, rowB t]) ⟨look_rowBE xs, Look.refl _, trivial⟩ (c_l2place xs t hx hb ht)
theorem c_l2texts (xs : List Cl) (m : Nat) (hm : m ≤ 1000) (hx : xs.length ≤ 1048576) (hb : ∀ b ∈ xs, b.f.length ≤ 1048576) : Meets Try.prog 149 [.rd .ent 160 3 (ra clC xs), .v (.int .i64 m)] (fun r => ∃ ys, r = rowBE ys ∧ (m < ys.length ↔ m < (dst xs).length)) := by
  refine Meets.intro mixed (hint [(5, 122)]) Try.func149 rfl (by decide) res_149 rty_149 (by kernel_rfl) ?_; 
  simp -dsimp -implicitDefEqProofs only [go_sem, Nat.reduceBEq, Nat.reduceAdd, Nat.reduceLeDiff, Nat.reduceSub, Int.reduceEq]
  refine LoopE.cnt xs.length (fun i s => s.env 0 = .rd .ent 160 3 (ra clC xs) ∧ s.env 1 = .v (.int .i64 m) ∧ s.env 5 = .ref [5] ∧ s.env 6 = .v (.int .i64 i) ∧ s.σ [5] = some (.row 37 1 (ra byE (dst (xs.take i))))) ⟨by simp -dsimp -implicitDefEqProofs only [go_sem, Nat.reduceBEq, Nat.reduceAdd, Nat.reduceLeDiff, Nat.reduceSub, Int.reduceEq, initE], by simp -dsimp -implicitDefEqProofs only [go_sem, Nat.reduceBEq, Nat.reduceAdd, Nat.reduceLeDiff, Nat.reduceSub, Int.reduceEq, initE], by simp -dsimp -implicitDefEqProofs only [go_sem, Nat.reduceBEq, Nat.reduceAdd, Nat.reduceLeDiff, Nat.reduceSub, Int.reduceEq], by simp -dsimp -implicitDefEqProofs only [go_sem, Nat.reduceBEq, Nat.reduceAdd, Nat.reduceLeDiff, Nat.reduceSub, Int.reduceEq], by simp -dsimp -implicitDefEqProofs only [go_sem, Nat.reduceBEq, Nat.reduceAdd, Nat.reduceLeDiff, Nat.reduceSub, Int.reduceEq] <;> rfl⟩ ?_
  rintro i ⟨e, σ⟩ hi ⟨h0, h1, h5, h6, hs⟩ K hK
  simp only at h0 h1 h5 h6 hs
  simp -dsimp -implicitDefEqProofs only [go_sem, Nat.reduceBEq, Nat.reduceAdd, Nat.reduceLeDiff, Nat.reduceSub, Int.reduceEq, h0, h1, h5, h6, hs]
  refine ifB'.of (fun hlt => ?_) (fun hlt => ?_)
  · have hlt : i < xs.length := by omega
    simp -dsimp -implicitDefEqProofs only [go_sem, Nat.reduceBEq, Nat.reduceAdd, Nat.reduceLeDiff, Nat.reduceSub, Int.reduceEq, h0, h1, h5, h6, hs]
    refine ifB'.of (fun hle => ?_) (fun hle => ?_)
    · have hdl := dst_len xs i hi
      have hdb : ∀ b ∈ dst (xs.take i), b.length ≤ 140737488355328 := fun b h => by
        obtain ⟨c, hc, rfl⟩ := dst_mem hi h
        have := hb c hc; omega
      simp -dsimp -implicitDefEqProofs only [go_sem, Nat.reduceBEq, Nat.reduceAdd, Nat.reduceLeDiff, Nat.reduceSub, Int.reduceEq, h0, h1, h5, h6, hs, Cl_at hlt, clC]
      repeat (first | with_reducible refine ask.of (by omega) ?_ | simp -dsimp -implicitDefEqProofs only [go_sem, Nat.reduceBEq, Nat.reduceAdd, Nat.reduceLeDiff, Nat.reduceSub, Int.reduceEq, h0, h1, h5, h6, hs, Cl_at hlt, clC, bleF])
      cases hz : xs[i].z
      · simp -dsimp -implicitDefEqProofs only [go_sem, Nat.reduceBEq, Nat.reduceAdd, Nat.reduceLeDiff, Nat.reduceSub, Int.reduceEq, h0, h1, h5, h6, hs, hz, Bool.not_false]
        repeat (first | with_reducible refine ask.of (by omega) ?_ | simp -dsimp -implicitDefEqProofs only [go_sem, Nat.reduceBEq, Nat.reduceAdd, Nat.reduceLeDiff, Nat.reduceSub, Int.reduceEq, h0, h1, h5, h6, hs, hz, Cl_at hlt, clC, bleF, Bool.not_false])
        refine CallE.of (c_l2placeE (dst (xs.take i)) xs[i].f (by omega) hdb (by have := hb _ (List.getElem_mem hlt); omega)) (by rintro r rfl; (repeat' first | exact trivial | exact pure_rowB _ | exact pure_rowO _ | exact pure_rowI _ | exact pure_rowBB _ | exact pure_rowPk _ _ | exact pure_rowSn _ _ | exact pure_rowFd _ _ | exact pure_rowCl _ _ | refine And.intro ?_ ?_)) (by simp -dsimp -implicitDefEqProofs only [go_sem, Nat.reduceBEq, Nat.reduceAdd, Nat.reduceLeDiff, Nat.reduceSub, Int.reduceEq, h0, h1, h5, h6, hs, hz, Bool.not_false]) ?_
        rintro r rfl
        simp -dsimp -implicitDefEqProofs only [go_sem, Nat.reduceBEq, Nat.reduceAdd, Nat.reduceLeDiff, Nat.reduceSub, Int.reduceEq, h0, h1, h5, h6, hs, hz, Bool.not_false]
        have hp := plI_nonneg (dst (xs.take i)) xs[i].f
        refine ifB'.of (fun hq => ?_) (fun hq => ?_)
        · have hnew : xs[i].f ∉ dst (xs.take i) := fun h => by have := hp.2 h; omega
          simp -dsimp -implicitDefEqProofs only [go_sem, Nat.reduceBEq, Nat.reduceAdd, Nat.reduceLeDiff, Nat.reduceSub, Int.reduceEq, h0, h1, h5, h6, hs, Cl_at hlt, clC]
          repeat (first | with_reducible refine ask.of (by first | omega | (simp; omega)) ?_ | simp -dsimp -implicitDefEqProofs only [go_sem, Nat.reduceBEq, Nat.reduceAdd, Nat.reduceLeDiff, Nat.reduceSub, Int.reduceEq, h0, h1, h5, h6, hs, hz, Cl_at hlt, clC, bleF, Bool.not_false])
          refine hK _ hlt ?_
          simp -dsimp -implicitDefEqProofs only [go_sem, Nat.reduceBEq, Nat.reduceAdd, Nat.reduceLeDiff, Nat.reduceSub, Int.reduceEq, h0, h1, h5, h6, hs, wrap_succ (show i < 4611686018427387904 by omega), dst_succ hlt, dstep_yes ⟨hz, hnew⟩]
        · have hold : xs[i].f ∈ dst (xs.take i) := hp.1 (by omega)
          simp -dsimp -implicitDefEqProofs only [go_sem, Nat.reduceBEq, Nat.reduceAdd, Nat.reduceLeDiff, Nat.reduceSub, Int.reduceEq, h0, h1, h5, h6, hs]
          refine hK _ hlt ?_
          simp -dsimp -implicitDefEqProofs only [go_sem, Nat.reduceBEq, Nat.reduceAdd, Nat.reduceLeDiff, Nat.reduceSub, Int.reduceEq, h0, h1, h5, h6, hs, wrap_succ (show i < 4611686018427387904 by omega), dst_succ hlt, dstep_no (fun h => h.2 hold)]
      · have hno : dstep (dst (xs.take i)) xs[i] = dst (xs.take i) := dstep_no (fun h => by rw [hz] at h; cases h.1)
        simp -dsimp -implicitDefEqProofs only [go_sem, Nat.reduceBEq, Nat.reduceAdd, Nat.reduceLeDiff, Nat.reduceSub, Int.reduceEq, h0, h1, h5, h6, hs, hz, Bool.not_true]
        refine hK _ hlt ?_
        simp -dsimp -implicitDefEqProofs only [go_sem, Nat.reduceBEq, Nat.reduceAdd, Nat.reduceLeDiff, Nat.reduceSub, Int.reduceEq, h0, h1, h5, h6, hs, wrap_succ (show i < 4611686018427387904 by omega), dst_succ hlt, hno]
    · simp -dsimp -implicitDefEqProofs only [go_sem, Nat.reduceBEq, Nat.reduceAdd, Nat.reduceLeDiff, Nat.reduceSub, Int.reduceEq, h0, h1, h5, h6, hs]
      refine ⟨_, rfl, ?_⟩
      have := dst_le xs i
      constructor <;> intro <;> omega
  · have : i = xs.length := by omega
    subst this
    simp -dsimp -implicitDefEqProofs only [go_sem, Nat.reduceBEq, Nat.reduceAdd, Nat.reduceLeDiff, Nat.reduceSub, Int.reduceEq, h0, h1, h5, h6, hs]
    exact ⟨_, rfl, by rw [List.take_length]⟩
end Go.Ev
