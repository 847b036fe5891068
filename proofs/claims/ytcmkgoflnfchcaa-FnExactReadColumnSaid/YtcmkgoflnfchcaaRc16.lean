/- Part 16 of what the row leans on: the evaluator, words, contracts of functions; pruned by a program of ours. -/
import Derived.Test.YtcmkgoflnfchcaaRc15
set_option linter.unusedSimpArgs false
set_option linter.unusedVariables false
namespace Go.Ev
open Go Go.RowKit Go.Proofs
theorem getD_at {α : Type} {l : List α} {i : Nat} {d : α} (h : i < l.length) : l.getD i d = l[i] := by simp [List.getD, h]
theorem unpack4_code (b : List UInt8) : (unpackIC b 4).2 = 0 ∨ (unpackIC b 4).2 = 3 := by
  unfold unpackIC
  rw [if_pos (by decide)]
  split
  · exact .inl rfl
  · exact .inr rfl
set_option maxRecDepth 8000 in
set_option maxHeartbeats 4000000 in
theorem c_l2split (b1 b2 : List UInt8) (m : Nat) (hm : m ≤ 100) (h1 : b1.length ≤ 1048576) (h2 : b2.length ≤ 1048576) : Meets Try.prog 144 [rowB b1, rowB b2, .v (.int .i64 m)] (fun r => r = .tup [rowBB (splL b1 b2 m).1, .v (.bool (splL b1 b2 m).2)]) := by
  refine Meets.introO mixed (hint [(10, 129)]) (fun k => (sel (k == 10) [0,1,2,3,4,5,6,7,8,9,10,11,12,13,14,15] [])) Try.func144 rfl (by decide) res_144 rty_144 (by kernel_rfl) ?_; 
  have hno := fun h => splL_no (b1 := b1) (b2 := b2) (n := m) h
  have hyes := fun h h' => splL_yes (b1 := b1) (b2 := b2) (n := m) h h'
  have hrg := unpackI_rng (b := b1) (w := 4)
  have hcd := unpack4_code b1
  have hlx := unpackIC_len b1 4
  have hu := c_specUnpackInts b1 4 h1
  generalize splL b1 b2 m = q at *
  generalize unpackIC b1 4 = u at *
  obtain ⟨xs, cd⟩ := u
  simp only at hno hyes hrg hcd hlx hu
  have em : IntKind.i64.wrap ((m : Int) + 1) = ((m + 1 : Nat) : Int) := wrap_succ (by omega)
  have hnil : ¬ (cd = 0 ∧ splOk xs b2.length m) → AV.tup [.row 22 1 [], .v (.bool false)] = .tup [rowBB q.1, .v (.bool q.2)] := fun h => by rw [hno h]; rfl
  simp -dsimp -implicitDefEqProofs only [go_sem, Nat.reduceBEq, Nat.reduceAdd, Nat.reduceLeDiff, Nat.reduceSub, Int.reduceEq]
  repeat (first | with_reducible refine ask.of (by first | omega | decide) ?_ | simp -dsimp -implicitDefEqProofs only [go_sem, Nat.reduceBEq, Nat.reduceAdd, Nat.reduceLeDiff, Nat.reduceSub, Int.reduceEq, initE])
  refine CallE.of (hu) (by rintro r rfl; (repeat' first | exact trivial | exact pure_rowB _ | exact pure_rowO _ | exact pure_rowI _ | exact pure_rowBB _ | exact pure_rowPk _ _ | exact pure_rowSn _ _ | exact pure_rowFd _ _ | exact pure_rowBBB _ | exact pure_rowCl _ _ | exact pure_rowTb _ _ _ | refine And.intro ?_ ?_)) (by simp -dsimp -implicitDefEqProofs only [go_sem, Nat.reduceBEq, Nat.reduceAdd, Nat.reduceLeDiff, Nat.reduceSub, Int.reduceEq]) ?_
  rintro r rfl
  simp -dsimp -implicitDefEqProofs only [go_sem, Nat.reduceBEq, Nat.reduceAdd, Nat.reduceLeDiff, Nat.reduceSub, Int.reduceEq]
  repeat (first | with_reducible refine ask.of (by first | omega | decide) ?_ | simp -dsimp -implicitDefEqProofs only [go_sem, Nat.reduceBEq, Nat.reduceAdd, Nat.reduceLeDiff, Nat.reduceSub, Int.reduceEq, initE])
  by_cases g1 : cd = 0
  rotate_left
  · repeat' (first | exact hnil fun h => g1 h.1 | with_reducible refine ask.of (by first | omega | decide) ?_ | ((with_reducible refine ifB'.of (fun h => ?_) (fun h => ?_)) <;> first | (exfalso; omega) | skip) | simp -dsimp -implicitDefEqProofs only [go_sem, Nat.reduceBEq, Nat.reduceAdd, Nat.reduceLeDiff, Nat.reduceSub, Int.reduceEq, initE])
  by_cases g2 : xs.length = m + 1
  rotate_left
  · repeat' (first | exact hnil fun h => g2 h.2.1 | with_reducible refine ask.of (by first | omega | decide) ?_ | ((with_reducible refine ifB'.of (fun h => ?_) (fun h => ?_)) <;> first | (exfalso; omega) | skip) | simp -dsimp -implicitDefEqProofs only [go_sem, Nat.reduceBEq, Nat.reduceAdd, Nat.reduceLeDiff, Nat.reduceSub, Int.reduceEq, initE, em])
  have a0 := intA_getD (xs := xs) (i := 0) (by omega)
  have am := intA_getD (xs := xs) (i := m) (by omega)
  by_cases g3 : xs.getD 0 0 = 0
  rotate_left
  · repeat' (first | exact hnil fun h => g3 h.2.2.1 | with_reducible refine ask.of (by first | omega | decide) ?_ | ((with_reducible refine ifB'.of (fun h => ?_) (fun h => ?_)) <;> first | (exfalso; omega) | skip) | simp -dsimp -implicitDefEqProofs only [go_sem, Nat.reduceBEq, Nat.reduceAdd, Nat.reduceLeDiff, Nat.reduceSub, Int.reduceEq, initE, em, it012, a0])
  by_cases g4 : xs.getD m 0 = b2.length
  rotate_left
  · repeat' (first | exact hnil fun h => g4 h.2.2.2.1 | with_reducible refine ask.of (by first | omega | decide) ?_ | ((with_reducible refine ifB'.of (fun h => ?_) (fun h => ?_)) <;> first | (exfalso; omega) | skip) | simp -dsimp -implicitDefEqProofs only [go_sem, Nat.reduceBEq, Nat.reduceAdd, Nat.reduceLeDiff, Nat.reduceSub, Int.reduceEq, initE, em, it012, a0, am])
  repeat' (first | with_reducible refine ask.of (by first | omega | decide) ?_ | ((with_reducible refine ifB'.of (fun h => ?_) (fun h => ?_)) <;> first | (exfalso; omega) | skip) | simp -dsimp -implicitDefEqProofs only [go_sem, Nat.reduceBEq, Nat.reduceAdd, Nat.reduceLeDiff, Nat.reduceSub, Int.reduceEq, initE, em, it012, a0, am])
  refine LoopE.cnt m (fun i s => s.env 1 = .rd .ent 5 1 (bytesA b2) ∧ s.env 2 = .v (.int .i64 m) ∧ s.env 8 = .ref [14, 0] ∧ s.env 10 = .ref [10] ∧ s.env 11 = .v (.int .i64 i) ∧ s.σ [14, 0] = some (.row 3 1 (ra intC xs)) ∧ s.σ [10] = some (.row 22 1 (ra byC ((List.range i).map (pcS xs b2)))) ∧ 0 ≤ xs.getD i 0 ∧ ∀ j, j < i → xs.getD j 0 ≤ xs.getD (j + 1) 0 ∧ xs.getD (j + 1) 0 ≤ b2.length) ⟨by simp -dsimp -implicitDefEqProofs only [go_sem, Nat.reduceBEq, Nat.reduceAdd, Nat.reduceLeDiff, Nat.reduceSub, Int.reduceEq, initE], by simp -dsimp -implicitDefEqProofs only [go_sem, Nat.reduceBEq, Nat.reduceAdd, Nat.reduceLeDiff, Nat.reduceSub, Int.reduceEq, initE], by simp -dsimp -implicitDefEqProofs only [go_sem, Nat.reduceBEq, Nat.reduceAdd, Nat.reduceLeDiff, Nat.reduceSub, Int.reduceEq], by simp -dsimp -implicitDefEqProofs only [go_sem, Nat.reduceBEq, Nat.reduceAdd, Nat.reduceLeDiff, Nat.reduceSub, Int.reduceEq], by simp -dsimp -implicitDefEqProofs only [go_sem, Nat.reduceBEq, Nat.reduceAdd, Nat.reduceLeDiff, Nat.reduceSub, Int.reduceEq] <;> rfl, by simp -dsimp -implicitDefEqProofs only [go_sem, Nat.reduceBEq, Nat.reduceAdd, Nat.reduceLeDiff, Nat.reduceSub, Int.reduceEq], by simp -dsimp -implicitDefEqProofs only [go_sem, Nat.reduceBEq, Nat.reduceAdd, Nat.reduceLeDiff, Nat.reduceSub, Int.reduceEq] <;> rfl, by omega, fun j hj => absurd hj (by omega)⟩ ?_
  rintro i ⟨e, σ⟩ hi ⟨k1, k2, k8, k10, k11, s14, s10, hge, hall⟩ K hK
  simp only at k1 k2 k8 k10 k11 s14 s10
  simp -dsimp -implicitDefEqProofs only [go_sem, Nat.reduceBEq, Nat.reduceAdd, Nat.reduceLeDiff, Nat.reduceSub, Int.reduceEq, k1, k2, k8, k10, k11, s14, s10]
  have hpl : ((List.range i).map (pcS xs b2)).length = i := by simp
  refine ifB'.of (fun hlt => ?_) (fun hlt => ?_)
  · have hlt : i < m := by omega
    have e1 : IntKind.i64.wrap ((i : Int) + 1) = ((i + 1 : Nat) : Int) := wrap_succ (by omega)
    have ai := intA_getD (xs := xs) (i := i) (by omega)
    have ai1 := intA_getD (xs := xs) (i := i + 1) (by omega)
    repeat' (first | exact hnil fun h => by (have h9 := h.2.2.2.2 i hlt; omega) | with_reducible refine ask.of (by first | omega | decide) ?_ | ((with_reducible refine ifB'.of (fun h => ?_) (fun h => ?_)) <;> first | (exfalso; omega) | skip) | simp -dsimp -implicitDefEqProofs only [go_sem, Nat.reduceBEq, Nat.reduceAdd, Nat.reduceLeDiff, Nat.reduceSub, Int.reduceEq, k1, k2, k8, k10, k11, s14, s10, e1, ai, ai1, bl3])
    all_goals
      refine CallE.of (c_l1copy (pcS xs b2 i) (by simp only [pcS, List.length_drop, List.length_take]; omega)) (by rintro r rfl; (repeat' first | exact trivial | exact pure_rowB _ | exact pure_rowO _ | exact pure_rowI _ | exact pure_rowBB _ | exact pure_rowPk _ _ | exact pure_rowSn _ _ | exact pure_rowFd _ _ | exact pure_rowBBB _ | exact pure_rowCl _ _ | exact pure_rowTb _ _ _ | refine And.intro ?_ ?_)) (by simp -dsimp -implicitDefEqProofs only [go_sem, Nat.reduceBEq, Nat.reduceAdd, Nat.reduceLeDiff, Nat.reduceSub, Int.reduceEq, k1, k2, k8, k10, k11, s14, s10, pcS]) ?_
      rintro r rfl
      simp -dsimp -implicitDefEqProofs only [go_sem, Nat.reduceBEq, Nat.reduceAdd, Nat.reduceLeDiff, Nat.reduceSub, Int.reduceEq, k1, k2, k8, k10, k11, s14, s10, pcS]
      repeat (first | with_reducible refine ask.of (by first | omega | decide) ?_ | simp -dsimp -implicitDefEqProofs only [go_sem, Nat.reduceBEq, Nat.reduceAdd, Nat.reduceLeDiff, Nat.reduceSub, Int.reduceEq, k1, k2, k8, k10, k11, s14, s10, bl3, hpl])
      refine hK _ hlt ?_
      simp -dsimp -implicitDefEqProofs only [go_sem, Nat.reduceBEq, Nat.reduceAdd, Nat.reduceLeDiff, Nat.reduceSub, Int.reduceEq, k1, k2, k8, k10, k11, s14, s10, e1]
      refine ⟨congrArg (fun l => some (OB.row 22 1 (ra byC l))) (by rw [List.map_append]; rfl), by omega, fun j hj => ?_⟩
      by_cases e2 : j = i
      · subst e2; omega
      · exact hall j (by omega)
  · have : i = m := by omega
    subst this
    simp -dsimp -implicitDefEqProofs only [go_sem, Nat.reduceBEq, Nat.reduceAdd, Nat.reduceLeDiff, Nat.reduceSub, Int.reduceEq, k1, k2, k8, k10, k11, s14, s10]
    rw [hyes g1 ⟨g2, g3, g4, hall⟩]
def nulC (v : List UInt8) (m i : Nat) : Cl := ⟨nulS v m i, 0, []⟩
theorem nulC_map (v : List UInt8) (m : Nat) (h : ¬ 0 < v.length) : (List.range m).map (nulC v m) = List.replicate m cl0 := by
  refine List.ext_getElem (by simp) fun i h1 h2 => ?_
  have e : nulS v m i = false := by unfold nulS; rw [if_neg h]
  simp [nulC, e, cl0]
theorem cut_zero (xs : List Int) (b : List UInt8) (m : Nat) (h : splOk xs b.length m) : szL id ((List.range m).map fun j => (pcS xs b j).length) ≤ b.length := by
  have key : ∀ k, k ≤ m → ((szL id ((List.range k).map fun j => (pcS xs b j).length) : Nat) : Int) ≤ xs.getD k 0 := by
    intro k
    induction k with
    | zero => intro _; rw [h.2.1]; simp [szL]
    | succ k ih =>
      intro hk
      have h1 := ih (by omega)
      have h2 := h.2.2.2 k (by omega)
      have h3 : (pcS xs b k).length ≤ (xs.getD (k + 1) 0).toNat - (xs.getD k 0).toNat := by
        simp only [pcS, List.length_drop, List.length_take]; omega
      simp only [szL, List.range_succ, List.map_append, List.sum_append, List.map_cons, List.map_nil, List.sum_cons, List.sum_nil, id_eq] at h1 ⊢
      omega
  have h1 := key m (Nat.le_refl _)
  rw [h.2.2.1] at h1
  omega
theorem sz_point {g : Nat → Cl} {k : Nat → Nat} : ∀ m, (∀ i, i < m → (g i).f.length ≤ k i) → szL clW ((List.range m).map g) ≤ szL id ((List.range m).map k)
  | 0, _ => Nat.le_refl _
  | m + 1, h => by
    have h1 := sz_point (g := g) (k := k) m fun i hi => h i (by omega)
    have h2 := h m (by omega)
    simp only [szL, List.range_succ, List.map_append, List.sum_append, List.map_cons, List.map_nil, List.sum_cons, List.sum_nil, id_eq, clW] at h1 ⊢
    omega
theorem rdS_sz (f : Fd) (m : Nat) (v b1 b2 : List UInt8) (vs : List (List UInt8)) (hm : m ≤ 100) (hv : ∀ b ∈ vs, b.length ≤ 4000) (hb : b1.length + b2.length ≤ 1048576) : m + szL clW (rdS f m v b1 b2 vs) ≤ 1048576 := by
  by_cases hk : f.k = 2
  · by_cases hs : (unpackIC b1 4).2 = 0 ∧ splOk (unpackIC b1 4).1 b2.length m
    · have h1 := cut_zero _ _ _ hs.2
      have h2 : szL clW (rdS f m v b1 b2 vs) ≤ szL id ((List.range m).map fun j => (pcS (unpackIC b1 4).1 b2 j).length) := sz_point m fun i hi => by
        unfold cdS
        split
        · exact Nat.zero_le _
        · rw [if_neg (by omega), if_neg (by omega), splL_yes hs.1 hs.2]
          show (((List.range m).map (pcS (unpackIC b1 4).1 b2)).getD i []).length ≤ _
          have : ((List.range m).map (pcS (unpackIC b1 4).1 b2)).getD i [] = pcS (unpackIC b1 4).1 b2 i := by simp [List.getD, hi]
          rw [this]; exact Nat.le_refl _
      have h3 := unpackIC_len b1 4
      have h4 := hs.2.1
      omega
    · have h2 : szL clW (rdS f m v b1 b2 vs) ≤ szL id ((List.range m).map fun j => 0) := sz_point m fun i hi => by
        unfold cdS
        split
        · exact Nat.zero_le _
        · rw [if_neg (by omega), if_neg (by omega), splL_no hs]
          simp [List.getD]
      have h3 : szL id ((List.range m).map fun j => 0) = 0 := by
        have := szL_bd (sz := id) (m := 0) ((List.range m).map fun j => 0) (fun x hx => by obtain ⟨j, _, rfl⟩ := List.mem_map.1 hx; exact Nat.le_refl 0)
        omega
      omega
  · have h2 : szL clW (rdS f m v b1 b2 vs) ≤ 4000 * (rdS f m v b1 b2 vs).length := szL_bd _ fun c hc => by
      obtain ⟨i, _, rfl⟩ := List.mem_map.1 hc
      unfold cdS
      split
      · exact Nat.zero_le _
      · split
        · exact Nat.zero_le _
        · split
          · exact Nat.zero_le _
          · show (if _ then vs.getD _ [] else []).length ≤ 4000
            split
            · rename_i hx
              have : vs.getD (b1.getD i 0).toNat [] = vs[(b1.getD i 0).toNat]'hx.2 := getD_at hx.2
              rw [this]; exact hv _ (List.getElem_mem _)
            · exact Nat.zero_le _
    rw [rdS_len] at h2
    omega
theorem rdS_rng (f : Fd) (m : Nat) (v b1 b2 : List UInt8) (vs : List (List UInt8)) : ∀ c ∈ rdS f m v b1 b2 vs, i64r c.i := fun c hc => by
  obtain ⟨i, _, rfl⟩ := List.mem_map.1 hc
  unfold cdS
  split
  · exact ⟨by decide, by decide⟩
  · split
    · show i64r (if _ then 1 else 0)
      split <;> exact ⟨by decide, by decide⟩
    · split
      · show i64r ((unpackIC b1 f.w).1.getD i 0)
        by_cases h : i < (unpackIC b1 f.w).1.length
        · have : (unpackIC b1 f.w).1.getD i 0 = (unpackIC b1 f.w).1[i] := by simp [List.getD, h]
          rw [this]; exact unpackI_rng _ (List.getElem_mem _)
        · have : (unpackIC b1 f.w).1.getD i 0 = 0 := by simp [List.getD, show (unpackIC b1 f.w).1.length ≤ i by omega]
          rw [this]; exact ⟨by decide, by decide⟩
      · split
        · show i64r 0
          exact ⟨by decide, by decide⟩
        · show i64r 0
          exact ⟨by decide, by decide⟩
theorem bitB_end {b : List UInt8} {i : Nat} (h : ¬ i / 8 < b.length) : bitB b i = false := by
  have : b[i / 8]? = none := by simp; omega
  unfold bitB
  rw [this]
  simp [bitOf]
theorem bit_num {b : List UInt8} {i : Nat} (h : i / 8 < b.length) : (((b[i / 8].toNat / 2 ^ (i % 8) % 2 : Nat) : Nat) : Int) = if bitB b i = true then 1 else 0 := by
  have e := bit_eq' h
  cases hb : bitB b i
  · rw [hb] at e
    have : ¬ (((b[i / 8].toNat / 2 ^ (i % 8) % 2 : Nat) : Int) = 1) := of_decide_eq_false e
    simp only [if_neg (show ¬ false = true by decide)]
    omega
  · rw [hb] at e
    rw [if_pos rfl]
    exact of_decide_eq_true e
theorem bytesA_getD {b : List UInt8} {i : Nat} (h : i < b.length) : (bytesA b)[i]? = some [.v (.int .u8 (b.getD i 0).toNat)] := by rw [bytesA_at h]; simp [List.getD, h]
set_option maxRecDepth 8000 in
set_option maxHeartbeats 16000000 in
theorem c_specReadColumn (f : Fd) (n : Int) (bs vs : List (List UInt8)) (hf : f.f.length ≤ 1048576) (hb : bs.length + wBB bs ≤ 1048576) (hv : vs.length + wBB vs ≤ 1048576) : Meets Try.prog 58 [.agg (fdC f), .v (.int .i64 n), rowBB bs, rowBB vs] (fun r => r = resRC (rdL f n bs vs)) := by
  refine Meets.introO mixed (hint [(162, 3)]) (fun k => (sel (k == 25) [0,1,2,3,4,5,6,7,8,9,10] (sel (k == 29) [0,1,2,3,4,5,6,7,8,9,10,11,12] (sel (k == 40) [0,1,2,3,4,5,6,7,8,9] [])))) Try.func58 rfl (by decide) res_58 rty_58 (by kernel_rfl) ?_; 
  have hbb : ∀ b ∈ bs, b.length ≤ 1048576 := fun b h => by have := mem_wBB h; omega
  have hvb : ∀ b ∈ vs, b.length ≤ 1048576 := fun b h => by have := mem_wBB h; omega
  simp -dsimp -implicitDefEqProofs only [go_sem, Nat.reduceBEq, Nat.reduceAdd, Nat.reduceLeDiff, Nat.reduceSub, Int.reduceEq, fdC]
  repeat (first | with_reducible refine ask.of (by first | omega | decide) ?_ | simp -dsimp -implicitDefEqProofs only [go_sem, Nat.reduceBEq, Nat.reduceAdd, Nat.reduceLeDiff, Nat.reduceSub, Int.reduceEq, initE, bl3])
  refine CallE.of (c_l2fieldOK f hf) (by rintro r rfl; (repeat' first | exact trivial | exact pure_rowB _ | exact pure_rowO _ | exact pure_rowI _ | exact pure_rowBB _ | exact pure_rowPk _ _ | exact pure_rowSn _ _ | exact pure_rowFd _ _ | exact pure_rowBBB _ | exact pure_rowCl _ _ | exact pure_rowTb _ _ _ | refine And.intro ?_ ?_)) (by simp -dsimp -implicitDefEqProofs only [go_sem, Nat.reduceBEq, Nat.reduceAdd, Nat.reduceLeDiff, Nat.reduceSub, Int.reduceEq, fdC]) ?_
  rintro r rfl
  simp -dsimp -implicitDefEqProofs only [go_sem, Nat.reduceBEq, Nat.reduceAdd, Nat.reduceLeDiff, Nat.reduceSub, Int.reduceEq, fdC]
  by_cases h1 : fdOk f
  rotate_left
  · repeat' (first | exact rc_bad fun h => h1 h.1 | with_reducible refine ask.of (by first | omega | decide) ?_ | simp -dsimp -implicitDefEqProofs only [go_sem, Nat.reduceBEq, Nat.reduceAdd, Nat.reduceLeDiff, Nat.reduceSub, Int.reduceEq, decide_eq_false h1, Bool.not_false, initE, bl3])
  repeat (first | with_reducible refine ask.of (by first | omega | decide) ?_ | simp -dsimp -implicitDefEqProofs only [go_sem, Nat.reduceBEq, Nat.reduceAdd, Nat.reduceLeDiff, Nat.reduceSub, Int.reduceEq, decide_eq_true h1, Bool.not_true, initE, bl3])
  refine CallE.of (c_sValidDict vs hv) (by rintro r rfl; (repeat' first | exact trivial | exact pure_rowB _ | exact pure_rowO _ | exact pure_rowI _ | exact pure_rowBB _ | exact pure_rowPk _ _ | exact pure_rowSn _ _ | exact pure_rowFd _ _ | exact pure_rowBBB _ | exact pure_rowCl _ _ | exact pure_rowTb _ _ _ | refine And.intro ?_ ?_)) (by simp -dsimp -implicitDefEqProofs only [go_sem, Nat.reduceBEq, Nat.reduceAdd, Nat.reduceLeDiff, Nat.reduceSub, Int.reduceEq]) ?_
  rintro r rfl
  simp -dsimp -implicitDefEqProofs only [go_sem, Nat.reduceBEq, Nat.reduceAdd, Nat.reduceLeDiff, Nat.reduceSub, Int.reduceEq]
  by_cases h2 : okD vs
  rotate_left
  · repeat' (first | exact rc_bad fun h => h2 h.2.1 | with_reducible refine ask.of (by first | omega | decide) ?_ | simp -dsimp -implicitDefEqProofs only [go_sem, Nat.reduceBEq, Nat.reduceAdd, Nat.reduceLeDiff, Nat.reduceSub, Int.reduceEq, decide_eq_false h2, Bool.not_false, initE, bl3])
  simp -dsimp -implicitDefEqProofs only [go_sem, Nat.reduceBEq, Nat.reduceAdd, Nat.reduceLeDiff, Nat.reduceSub, Int.reduceEq, decide_eq_true h2, Bool.not_true]
  by_cases h3 : 0 ≤ n ∧ n ≤ 100
  rotate_left
  · repeat' (first | exact rc_bad fun h => h3 h.2.2 | with_reducible refine ask.of (by first | omega | decide) ?_ | ((with_reducible refine ifB'.of (fun h => ?_) (fun h => ?_)) <;> first | (exfalso; omega) | skip) | simp -dsimp -implicitDefEqProofs only [go_sem, Nat.reduceBEq, Nat.reduceAdd, Nat.reduceLeDiff, Nat.reduceSub, Int.reduceEq, decide_eq_true h2, Bool.not_true, initE, bl3])
  have hg : rcOk f n vs := ⟨h1, h2, h3.1, h3.2⟩
  have h40 := h2.1
  obtain ⟨m, rfl⟩ : ∃ m : Nat, n = m := ⟨n.toNat, by omega⟩
  have hm : m ≤ 100 := by omega
  have h4000 : ∀ b ∈ vs, b.length ≤ 4000 := fun b h => by have := mem_wBB h; have := h2.2.1; omega
  have hU := c_specUnpackBits (bs.getD 0 []) m (bs_le hbb 0) (by omega) (by omega)
  have hUl := unpackC_ok (b := bs.getD 0 []) (n := (m : Nat))
  have h2l := two_le bs
  have hR0 := rdS_sz f m (bs.getD 0 []) (bs.getD 1 []) (bs.getD 2 []) vs hm h4000 (by omega)
  have hR1 := rdS_rng f m (bs.getD 0 []) (bs.getD 1 []) (bs.getD 2 []) vs
  have hR2 := rdS_len f m (bs.getD 0 []) (bs.getD 1 []) (bs.getD 2 []) vs
  have hRb : ∀ cs, rdOf f m bs vs cs → rdS f m (bs.getD 0 []) (bs.getD 1 []) (bs.getD 2 []) vs = cs := fun cs h => by
    have := rd_back hg hbb h
    rwa [Int.toNat_natCast] at this
  repeat' (first | with_reducible refine ask.of (by first | omega | decide) ?_ | (with_reducible refine ifB'.no (p := (m : Int) < 0) (by omega) ?_) | (with_reducible refine ifB'.no (p := (100 : Int) < m) (by omega) ?_) | simp -dsimp -implicitDefEqProofs only [go_sem, Nat.reduceBEq, Nat.reduceAdd, Nat.reduceLeDiff, Nat.reduceSub, Int.reduceEq, initE, bl3])
  refine ifB'.of (fun hk2 => ?_) (fun hk2 => ?_)
  · have hwn : wantN f = 3 := by unfold wantN; rw [if_pos hk2]
    repeat (first | with_reducible refine ask.of (by first | omega | decide) ?_ | simp -dsimp -implicitDefEqProofs only [go_sem, Nat.reduceBEq, Nat.reduceAdd, Nat.reduceLeDiff, Nat.reduceSub, Int.reduceEq, initE, bl3])
    refine ifB'.of (fun hl => ?_) (fun hl => ?_)
    rotate_left
    · repeat (first | with_reducible refine ask.of (by first | omega | decide) ?_ | simp -dsimp -implicitDefEqProofs only [go_sem, Nat.reduceBEq, Nat.reduceAdd, Nat.reduceLeDiff, Nat.reduceSub, Int.reduceEq, initE, bl3])
      exact rc_no hg fun cs h => hl (by have := (rd_parts h).2.2.2.2.2; omega)
    repeat (first | with_reducible refine ask.of (by first | omega | decide) ?_ | simp -dsimp -implicitDefEqProofs only [go_sem, Nat.reduceBEq, Nat.reduceAdd, Nat.reduceLeDiff, Nat.reduceSub, Int.reduceEq, initE, bl3, it012, bs_at (show 0 < bs.length by omega)])
    refine ifB'.of (fun hv0 => ?_) (fun hv0 => ?_)
    · repeat (first | with_reducible refine ask.of (by first | omega | decide) ?_ | simp -dsimp -implicitDefEqProofs only [go_sem, Nat.reduceBEq, Nat.reduceAdd, Nat.reduceLeDiff, Nat.reduceSub, Int.reduceEq, initE, bl3, it012, bs_at (show 0 < bs.length by omega)])
      refine CallE.of (hU) (by rintro r rfl; (repeat' first | exact trivial | exact pure_rowB _ | exact pure_rowO _ | exact pure_rowI _ | exact pure_rowBB _ | exact pure_rowPk _ _ | exact pure_rowSn _ _ | exact pure_rowFd _ _ | exact pure_rowBBB _ | exact pure_rowCl _ _ | exact pure_rowTb _ _ _ | refine And.intro ?_ ?_)) (by simp -dsimp -implicitDefEqProofs only [go_sem, Nat.reduceBEq, Nat.reduceAdd, Nat.reduceLeDiff, Nat.reduceSub, Int.reduceEq]) ?_
      rintro r rfl
      simp -dsimp -implicitDefEqProofs only [go_sem, Nat.reduceBEq, Nat.reduceAdd, Nat.reduceLeDiff, Nat.reduceSub, Int.reduceEq]
      have hV : ∀ cs, rdOf f m bs vs cs → unpackC (bs.getD 0 []) m = (thereL cs, 0) := fun cs h => by
        obtain ⟨_, g1, g2, _⟩ := rd_parts h
        have g1 : m = cs.length := by omega
        rcases valid_cases cs with ⟨g3, _⟩ | ⟨_, g4⟩
        · rw [g2, g3] at hv0; exact absurd hv0 (by decide)
        · rw [g1, g2]; exact g4
      have hNs : ∀ j, nulS (bs.getD 0 []) m j = !((unpackC (bs.getD 0 []) m).1.getD j false) := fun j => by
        have : 0 < (bs.getD 0 []).length := by omega
        rw [nulS, if_pos this]
      generalize unpackC (bs.getD 0 []) m = u at *
      obtain ⟨ts, tc⟩ := u
      simp only at hUl hNs
      repeat (first | with_reducible refine ask.of (by first | omega | decide) ?_ | simp -dsimp -implicitDefEqProofs only [go_sem, Nat.reduceBEq, Nat.reduceAdd, Nat.reduceLeDiff, Nat.reduceSub, Int.reduceEq, initE, bl3])
      refine ifB'.of (fun hc2 => ?_) (fun hc2 => ?_)
      rotate_left
      · repeat' (first | exact rc_no hg fun cs h => hc2 (by have e9 := hV cs h; simp only [Prod.mk.injEq] at e9; omega) | with_reducible refine ask.of (by first | omega | decide) ?_ | simp -dsimp -implicitDefEqProofs only [go_sem, Nat.reduceBEq, Nat.reduceAdd, Nat.reduceLeDiff, Nat.reduceSub, Int.reduceEq, initE, bl3])
      have htl : ts.length = m := by have := (hUl (by omega)).1; omega
      repeat (first | with_reducible refine ask.of (by first | omega | decide) ?_ | simp -dsimp -implicitDefEqProofs only [go_sem, Nat.reduceBEq, Nat.reduceAdd, Nat.reduceLeDiff, Nat.reduceSub, Int.reduceEq, initE, bl3])
      refine LoopE.cnt m (fun i s => s.env 1 = .v (.int .i64 m) ∧ s.env 2 = .rd .ent 22 1 (ra byC bs) ∧ s.env 3 = .rd .ent 22 1 (ra byC vs) ∧ s.env 4 = .ptr [4] 0 0 0 ∧ s.env 10 = .v (.int .i64 3) ∧ s.env 11 = .ref [47] ∧ s.env 12 = .ref [58, 0] ∧ s.env 14 = .v (.int .i64 i) ∧
        s.σ [4] = some (.box 84 [.rd .ent 5 1 (bytesA f.f), .v (.int .i64 f.k), .v (.int .i64 f.w)]) ∧ s.σ [58, 0] = some (.row 4 1 (ra boolC ts)) ∧ s.σ [47] = some (.row 145 3 (ra clC (mkPre (nulC (bs.getD 0 []) m) (List.replicate m cl0) i)))) ⟨by simp -dsimp -implicitDefEqProofs only [go_sem, Nat.reduceBEq, Nat.reduceAdd, Nat.reduceLeDiff, Nat.reduceSub, Int.reduceEq, initE], by simp -dsimp -implicitDefEqProofs only [go_sem, Nat.reduceBEq, Nat.reduceAdd, Nat.reduceLeDiff, Nat.reduceSub, Int.reduceEq, initE], by simp -dsimp -implicitDefEqProofs only [go_sem, Nat.reduceBEq, Nat.reduceAdd, Nat.reduceLeDiff, Nat.reduceSub, Int.reduceEq, initE], by simp -dsimp -implicitDefEqProofs only [go_sem, Nat.reduceBEq, Nat.reduceAdd, Nat.reduceLeDiff, Nat.reduceSub, Int.reduceEq], by simp -dsimp -implicitDefEqProofs only [go_sem, Nat.reduceBEq, Nat.reduceAdd, Nat.reduceLeDiff, Nat.reduceSub, Int.reduceEq], by simp -dsimp -implicitDefEqProofs only [go_sem, Nat.reduceBEq, Nat.reduceAdd, Nat.reduceLeDiff, Nat.reduceSub, Int.reduceEq], by simp -dsimp -implicitDefEqProofs only [go_sem, Nat.reduceBEq, Nat.reduceAdd, Nat.reduceLeDiff, Nat.reduceSub, Int.reduceEq], by simp -dsimp -implicitDefEqProofs only [go_sem, Nat.reduceBEq, Nat.reduceAdd, Nat.reduceLeDiff, Nat.reduceSub, Int.reduceEq] <;> rfl, by simp -dsimp -implicitDefEqProofs only [go_sem, Nat.reduceBEq, Nat.reduceAdd, Nat.reduceLeDiff, Nat.reduceSub, Int.reduceEq, initE], by simp -dsimp -implicitDefEqProofs only [go_sem, Nat.reduceBEq, Nat.reduceAdd, Nat.reduceLeDiff, Nat.reduceSub, Int.reduceEq], by simp -dsimp -implicitDefEqProofs only [go_sem, Nat.reduceBEq, Nat.reduceAdd, Nat.reduceLeDiff, Nat.reduceSub, Int.reduceEq, mkPre_zero] <;> exact congrArg (fun l => some (OB.row 145 3 l)) (Cl_zeros m)⟩ ?_
      rintro i ⟨e, σ⟩ hi ⟨k1, k2, k3, k4, k10, k11, k12, k14, s4, s58, s47⟩ K hK
      simp only at k1 k2 k3 k4 k10 k11 k12 k14 s4 s58 s47
      simp -dsimp -implicitDefEqProofs only [go_sem, Nat.reduceBEq, Nat.reduceAdd, Nat.reduceLeDiff, Nat.reduceSub, Int.reduceEq, k1, k2, k3, k4, k10, k11, k12, k14, s4, s58, s47]
      refine ifB'.of (fun hlt => ?_) (fun hlt => ?_)
      · have hlt : i < m := by omega
        have hlt1 : i < ts.length := by omega
        have hml := mkPre_length (nulC (bs.getD 0 []) m) (xs := List.replicate m cl0) (i := i) (by rw [List.length_replicate]; exact hi)
        rw [List.length_replicate] at hml
        have hma : (ra clC (mkPre (nulC (bs.getD 0 []) m) (List.replicate m cl0) i))[i]? = some [.v (.bool false), .v (.int .i64 0), .row 5 1 []] := ra_at' (x := cl0) (by rw [mkPre_at _ (show i < (List.replicate m cl0).length by rw [List.length_replicate]; omega)]; simp)
        repeat (first | with_reducible refine ask.of (by first | omega | decide) ?_ | simp -dsimp -implicitDefEqProofs only [go_sem, Nat.reduceBEq, Nat.reduceAdd, Nat.reduceLeDiff, Nat.reduceSub, Int.reduceEq, k1, k2, k3, k4, k10, k11, k12, k14, s4, s58, s47, boolA_at hlt1, hma, bl3, hml, ra_length])
        refine hK _ hlt ?_
        simp -dsimp -implicitDefEqProofs only [go_sem, Nat.reduceBEq, Nat.reduceAdd, Nat.reduceLeDiff, Nat.reduceSub, Int.reduceEq, k1, k2, k3, k4, k10, k11, k12, k14, s4, s58, s47, wrap_succ (show i < 4611686018427387904 by omega)]
        refine congrArg (fun l => some (OB.row 145 3 l)) ?_
        have hy : (⟨!ts[i], 0, []⟩ : Cl) = nulC (bs.getD 0 []) m i := by rw [nulC, hNs]; simp [List.getD, hlt1]
        exact (ra_set _ i ⟨!ts[i], 0, []⟩).trans (congrArg (ra clC) (mkPre_set (nulC (bs.getD 0 []) m) (List.replicate m cl0) (by rw [List.length_replicate]; exact hlt) hy))
      · have hie : i = m := by omega
        subst hie
        have hfu : mkPre (nulC (bs.getD 0 []) i) (List.replicate i cl0) i = (List.range i).map (nulC (bs.getD 0 []) i) := by
          have := mkPre_full (nulC (bs.getD 0 []) i) (List.replicate i cl0)
          rw [List.length_replicate] at this
          exact this
        rw [hfu] at s47
        clear hK
        generalize i = m at *
        simp -dsimp -implicitDefEqProofs only [go_sem, Nat.reduceBEq, Nat.reduceAdd, Nat.reduceLeDiff, Nat.reduceSub, Int.reduceEq, k1, k2, k3, k4, k10, k11, k12, k14, s4, s58, s47]
        repeat (first | with_reducible refine ask.of (by first | omega | decide) ?_ | simp -dsimp -implicitDefEqProofs only [go_sem, Nat.reduceBEq, Nat.reduceAdd, Nat.reduceLeDiff, Nat.reduceSub, Int.reduceEq, k1, k2, k3, k4, k10, k11, k12, k14, s4, s58, s47, initE, bl3])
        refine LoopE.cnt m (fun i s => s.env 1 = .v (.int .i64 m) ∧ s.env 2 = .rd .ent 22 1 (ra byC bs) ∧ s.env 3 = .rd .ent 22 1 (ra byC vs) ∧ s.env 4 = .ptr [4] 0 0 0 ∧ s.env 10 = .v (.int .i64 3) ∧ s.env 11 = .ref [47] ∧ s.env 15 = .v (.int .i64 i) ∧
          s.σ [4] = some (.box 84 [.rd .ent 5 1 (bytesA f.f), .v (.int .i64 f.k), .v (.int .i64 f.w)]) ∧ s.σ [47] = some (.row 145 3 (ra clC (mkPre (cdS f m (bs.getD 0 []) (bs.getD 1 []) (bs.getD 2 []) vs) ((List.range m).map (nulC (bs.getD 0 []) m)) i)))) ⟨by simp -dsimp -implicitDefEqProofs only [go_sem, Nat.reduceBEq, Nat.reduceAdd, Nat.reduceLeDiff, Nat.reduceSub, Int.reduceEq, k1, k2, k3, k4, k10, k11, k12, k14, s4, s58, s47], by simp -dsimp -implicitDefEqProofs only [go_sem, Nat.reduceBEq, Nat.reduceAdd, Nat.reduceLeDiff, Nat.reduceSub, Int.reduceEq, k1, k2, k3, k4, k10, k11, k12, k14, s4, s58, s47], by simp -dsimp -implicitDefEqProofs only [go_sem, Nat.reduceBEq, Nat.reduceAdd, Nat.reduceLeDiff, Nat.reduceSub, Int.reduceEq, k1, k2, k3, k4, k10, k11, k12, k14, s4, s58, s47], by simp -dsimp -implicitDefEqProofs only [go_sem, Nat.reduceBEq, Nat.reduceAdd, Nat.reduceLeDiff, Nat.reduceSub, Int.reduceEq, k1, k2, k3, k4, k10, k11, k12, k14, s4, s58, s47], by simp -dsimp -implicitDefEqProofs only [go_sem, Nat.reduceBEq, Nat.reduceAdd, Nat.reduceLeDiff, Nat.reduceSub, Int.reduceEq, k1, k2, k3, k4, k10, k11, k12, k14, s4, s58, s47], by simp -dsimp -implicitDefEqProofs only [go_sem, Nat.reduceBEq, Nat.reduceAdd, Nat.reduceLeDiff, Nat.reduceSub, Int.reduceEq, k1, k2, k3, k4, k10, k11, k12, k14, s4, s58, s47], by simp -dsimp -implicitDefEqProofs only [go_sem, Nat.reduceBEq, Nat.reduceAdd, Nat.reduceLeDiff, Nat.reduceSub, Int.reduceEq, k1, k2, k3, k4, k10, k11, k12, k14, s4, s58, s47] <;> rfl, by simp -dsimp -implicitDefEqProofs only [go_sem, Nat.reduceBEq, Nat.reduceAdd, Nat.reduceLeDiff, Nat.reduceSub, Int.reduceEq, k1, k2, k3, k4, k10, k11, k12, k14, s4, s58, s47], by simp -dsimp -implicitDefEqProofs only [go_sem, Nat.reduceBEq, Nat.reduceAdd, Nat.reduceLeDiff, Nat.reduceSub, Int.reduceEq, k1, k2, k3, k4, k10, k11, k12, k14, s4, s58, s47, mkPre_zero]⟩ ?_
        clear k1 k2 k3 k4 k10 k11 k12 k14 s4 s58 s47
        rintro i ⟨e, σ⟩ hi ⟨k1, k2, k3, k4, k10, k11, k15, s4, s47⟩ K hK
        simp only at k1 k2 k3 k4 k10 k11 k15 s4 s47
        simp -dsimp -implicitDefEqProofs only [go_sem, Nat.reduceBEq, Nat.reduceAdd, Nat.reduceLeDiff, Nat.reduceSub, Int.reduceEq, k1, k2, k3, k4, k10, k11, k15, s4, s47]
        have hnl : ((List.range m).map (nulC (bs.getD 0 []) m)).length = m := by simp
        refine ifB'.of (fun hlt => ?_) (fun hlt => ?_)
        · have hlt : i < m := by omega
          have hni : ((List.range m).map (nulC (bs.getD 0 []) m))[i]'(by omega) = nulC (bs.getD 0 []) m i := by simp
          have hma : (ra clC (mkPre (cdS f m (bs.getD 0 []) (bs.getD 1 []) (bs.getD 2 []) vs) ((List.range m).map (nulC (bs.getD 0 []) m)) i))[i]? = some (clC (nulC (bs.getD 0 []) m i)) := ra_at' (by rw [mkPre_at _ (show i < ((List.range m).map (nulC (bs.getD 0 []) m)).length by omega), hni])
          have hml := mkPre_length (cdS f m (bs.getD 0 []) (bs.getD 1 []) (bs.getD 2 []) vs) (xs := (List.range m).map (nulC (bs.getD 0 []) m)) (i := i) (by omega)
          have hset : ∀ y, y = cdS f m (bs.getD 0 []) (bs.getD 1 []) (bs.getD 2 []) vs i → (ra clC (mkPre (cdS f m (bs.getD 0 []) (bs.getD 1 []) (bs.getD 2 []) vs) ((List.range m).map (nulC (bs.getD 0 []) m)) i)).set i (clC y) = ra clC (mkPre (cdS f m (bs.getD 0 []) (bs.getD 1 []) (bs.getD 2 []) vs) ((List.range m).map (nulC (bs.getD 0 []) m)) (i + 1)) := fun y hy => by
            rw [ra_set, mkPre_set _ _ (by omega) hy]
          have hkeep : nulC (bs.getD 0 []) m i = cdS f m (bs.getD 0 []) (bs.getD 1 []) (bs.getD 2 []) vs i → mkPre (cdS f m (bs.getD 0 []) (bs.getD 1 []) (bs.getD 2 []) vs) ((List.range m).map (nulC (bs.getD 0 []) m)) (i + 1) = mkPre (cdS f m (bs.getD 0 []) (bs.getD 1 []) (bs.getD 2 []) vs) ((List.range m).map (nulC (bs.getD 0 []) m)) i := fun h => mkPre_keep _ (by omega) (by rw [hni, h])
          have hi1 : IntKind.i64.wrap ((i : Int) + 1) = ((i + 1 : Nat) : Int) := wrap_succ (by omega)
          repeat (first | with_reducible refine ask.of (by first | omega | decide) ?_ | simp -dsimp -implicitDefEqProofs only [go_sem, Nat.reduceBEq, Nat.reduceAdd, Nat.reduceLeDiff, Nat.reduceSub, Int.reduceEq, k1, k2, k3, k4, k10, k11, k15, s4, s47, hma, clC, nulC, bl3, hml, hnl, ra_length])
          cases hz : nulS (bs.getD 0 []) m i
          rotate_left
          · have hc : nulC (bs.getD 0 []) m i = cdS f m (bs.getD 0 []) (bs.getD 1 []) (bs.getD 2 []) vs i := by rw [cdS, hz, if_pos rfl, nulC, hz]
            repeat (first | with_reducible refine ask.of (by first | omega | decide) ?_ | simp -dsimp -implicitDefEqProofs only [go_sem, Nat.reduceBEq, Nat.reduceAdd, Nat.reduceLeDiff, Nat.reduceSub, Int.reduceEq, k1, k2, k3, k4, k10, k11, k15, s4, s47, hz, bl3])
            refine hK _ hlt ?_
            simp -dsimp -implicitDefEqProofs only [go_sem, Nat.reduceBEq, Nat.reduceAdd, Nat.reduceLeDiff, Nat.reduceSub, Int.reduceEq, k1, k2, k3, k4, k10, k11, k15, s4, s47, hi1, hkeep hc]
          have hcd : cdS f m (bs.getD 0 []) (bs.getD 1 []) (bs.getD 2 []) vs i = if f.k = 0 then ⟨false, if bitB (bs.getD 1 []) i = true then 1 else 0, []⟩ else if f.k = 1 then ⟨false, (unpackIC (bs.getD 1 []) f.w).1.getD i 0, []⟩ else if f.k = 2 then ⟨false, 0, (splL (bs.getD 1 []) (bs.getD 2 []) m).1.getD i []⟩ else ⟨false, 0, if i < (bs.getD 1 []).length ∧ ((bs.getD 1 []).getD i 0).toNat < vs.length then vs.getD ((bs.getD 1 []).getD i 0).toNat [] else []⟩ := by
            rw [cdS, hz]; rfl
          have hnc : nulC (bs.getD 0 []) m i = ⟨false, 0, []⟩ := by rw [nulC, hz]
          have hma2 : (ra clC (mkPre (cdS f m (bs.getD 0 []) (bs.getD 1 []) (bs.getD 2 []) vs) ((List.range m).map (nulC (bs.getD 0 []) m)) i))[i]? = some [.v (.bool false), .v (.int .i64 0), .row 5 1 []] := by rw [hma, hnc]; rfl
          repeat (first | with_reducible refine ask.of (by first | omega | decide) ?_ | simp -dsimp -implicitDefEqProofs only [go_sem, Nat.reduceBEq, Nat.reduceAdd, Nat.reduceLeDiff, Nat.reduceSub, Int.reduceEq, k1, k2, k3, k4, k10, k11, k15, s4, s47, hz, bl3])
          refine ifB'.no (by omega) ?_
          repeat (first | with_reducible refine ask.of (by first | omega | decide) ?_ | simp -dsimp -implicitDefEqProofs only [go_sem, Nat.reduceBEq, Nat.reduceAdd, Nat.reduceLeDiff, Nat.reduceSub, Int.reduceEq, k1, k2, k3, k4, k10, k11, k15, s4, s47, bl3])
          refine ifB'.no (by omega) ?_
          repeat (first | with_reducible refine ask.of (by first | omega | decide) ?_ | simp -dsimp -implicitDefEqProofs only [go_sem, Nat.reduceBEq, Nat.reduceAdd, Nat.reduceLeDiff, Nat.reduceSub, Int.reduceEq, k1, k2, k3, k4, k10, k11, k15, s4, s47, bl3])
          refine ifB'.yes hk2 ?_
          repeat (first | with_reducible refine ask.of (by first | omega | decide) ?_ | simp -dsimp -implicitDefEqProofs only [go_sem, Nat.reduceBEq, Nat.reduceAdd, Nat.reduceLeDiff, Nat.reduceSub, Int.reduceEq, k1, k2, k3, k4, k10, k11, k15, s4, s47, bl3, it012, bs_at (show 1 < bs.length by omega), bs_at (show 2 < bs.length by omega)])
          refine CallE.of (c_l2split (bs.getD 1 []) (bs.getD 2 []) m hm (bs_le hbb 1) (bs_le hbb 2)) (by rintro r rfl; (repeat' first | exact trivial | exact pure_rowB _ | exact pure_rowO _ | exact pure_rowI _ | exact pure_rowBB _ | exact pure_rowPk _ _ | exact pure_rowSn _ _ | exact pure_rowFd _ _ | exact pure_rowBBB _ | exact pure_rowCl _ _ | exact pure_rowTb _ _ _ | refine And.intro ?_ ?_)) (by simp -dsimp -implicitDefEqProofs only [go_sem, Nat.reduceBEq, Nat.reduceAdd, Nat.reduceLeDiff, Nat.reduceSub, Int.reduceEq, k1, k2, k3, k4, k10, k11, k15, s4, s47]) ?_
          rintro r rfl
          simp -dsimp -implicitDefEqProofs only [go_sem, Nat.reduceBEq, Nat.reduceAdd, Nat.reduceLeDiff, Nat.reduceSub, Int.reduceEq, k1, k2, k3, k4, k10, k11, k15, s4, s47]
          rw [if_neg (by omega), if_neg (by omega), if_pos hk2] at hcd
          have hsl : (splL (bs.getD 1 []) (bs.getD 2 []) m).2 = true → (splL (bs.getD 1 []) (bs.getD 2 []) m).1.length = m := fun h => by
            by_cases hs : (unpackIC (bs.getD 1 []) 4).2 = 0 ∧ splOk (unpackIC (bs.getD 1 []) 4).1 (bs.getD 2 []).length m
            · rw [splL_yes hs.1 hs.2]; simp
            · rw [splL_no hs] at h; cases h
          have hsn : (splL (bs.getD 1 []) (bs.getD 2 []) m).2 = false → (splL (bs.getD 1 []) (bs.getD 2 []) m).1 = [] := fun h => by
            by_cases hs : (unpackIC (bs.getD 1 []) 4).2 = 0 ∧ splOk (unpackIC (bs.getD 1 []) 4).1 (bs.getD 2 []).length m
            · rw [splL_yes hs.1 hs.2] at h; cases h
            · rw [splL_no hs]
          generalize splL (bs.getD 1 []) (bs.getD 2 []) m = sp at hcd hsl hsn
          obtain ⟨tx, ok⟩ := sp
          simp only at hcd hsl hsn
          cases ok
          · have hc : nulC (bs.getD 0 []) m i = cdS f m (bs.getD 0 []) (bs.getD 1 []) (bs.getD 2 []) vs i := by rw [hcd, hnc, hsn rfl]; rfl
            repeat (first | with_reducible refine ask.of (by first | omega | decide) ?_ | simp -dsimp -implicitDefEqProofs only [go_sem, Nat.reduceBEq, Nat.reduceAdd, Nat.reduceLeDiff, Nat.reduceSub, Int.reduceEq, k1, k2, k3, k4, k10, k11, k15, s4, s47, bl3])
            refine hK _ hlt ?_
            simp -dsimp -implicitDefEqProofs only [go_sem, Nat.reduceBEq, Nat.reduceAdd, Nat.reduceLeDiff, Nat.reduceSub, Int.reduceEq, k1, k2, k3, k4, k10, k11, k15, s4, s47, hi1, hkeep hc]
          · have htx : i < tx.length := by rw [hsl rfl]; exact hlt
            repeat (first | with_reducible refine ask.of (by first | omega | decide) ?_ | simp -dsimp -implicitDefEqProofs only [go_sem, Nat.reduceBEq, Nat.reduceAdd, Nat.reduceLeDiff, Nat.reduceSub, Int.reduceEq, k1, k2, k3, k4, k10, k11, k15, s4, s47, bl3, byA_at htx, hma2, hml, hnl, ra_length])
            refine hK _ hlt ?_
            simp -dsimp -implicitDefEqProofs only [go_sem, Nat.reduceBEq, Nat.reduceAdd, Nat.reduceLeDiff, Nat.reduceSub, Int.reduceEq, k1, k2, k3, k4, k10, k11, k15, s4, s47, hi1]
            exact congrArg (fun l => some (OB.row 145 3 l)) (hset ⟨false, 0, tx[i]⟩ (by rw [hcd]; simp [List.getD, htx]))
        · have hie : i = m := by omega
          subst hie
          have hfull : mkPre (cdS f i (bs.getD 0 []) (bs.getD 1 []) (bs.getD 2 []) vs) ((List.range i).map (nulC (bs.getD 0 []) i)) i = rdS f i (bs.getD 0 []) (bs.getD 1 []) (bs.getD 2 []) vs := by
            have := mkPre_full (cdS f i (bs.getD 0 []) (bs.getD 1 []) (bs.getD 2 []) vs) ((List.range i).map (nulC (bs.getD 0 []) i))
            rw [hnl] at this
            exact this
          rw [hfull] at s47
          clear hK
          generalize rdS f i (bs.getD 0 []) (bs.getD 1 []) (bs.getD 2 []) vs = cs1 at *
          simp -dsimp -implicitDefEqProofs only [go_sem, Nat.reduceBEq, Nat.reduceAdd, Nat.reduceLeDiff, Nat.reduceSub, Int.reduceEq, k1, k2, k3, k4, k10, k11, k15, s4, s47]
          repeat (first | with_reducible refine ask.of (by first | omega | decide) ?_ | simp -dsimp -implicitDefEqProofs only [go_sem, Nat.reduceBEq, Nat.reduceAdd, Nat.reduceLeDiff, Nat.reduceSub, Int.reduceEq, k1, k2, k3, k4, k10, k11, k15, s4, s47, initE, bl3])
          refine CallE.of (c_specBuildColumn f cs1 vs hf (by omega) (by omega)) (by rintro r rfl; (repeat' first | exact trivial | exact pure_rowB _ | exact pure_rowO _ | exact pure_rowI _ | exact pure_rowBB _ | exact pure_rowPk _ _ | exact pure_rowSn _ _ | exact pure_rowFd _ _ | exact pure_rowBBB _ | exact pure_rowCl _ _ | exact pure_rowTb _ _ _ | refine And.intro ?_ ?_)) (by simp -dsimp -implicitDefEqProofs only [go_sem, Nat.reduceBEq, Nat.reduceAdd, Nat.reduceLeDiff, Nat.reduceSub, Int.reduceEq, k1, k2, k3, k4, k10, k11, k15, s4, s47, fdC, rowCl]) ?_
          rintro r rfl
          simp -dsimp -implicitDefEqProofs only [go_sem, Nat.reduceBEq, Nat.reduceAdd, Nat.reduceLeDiff, Nat.reduceSub, Int.reduceEq, k1, k2, k3, k4, k10, k11, k15, s4, s47, fdC, rowCl]
          unfold resB
          have hY : ∀ y, bldL f cs1 vs = y → y.2 = 0 ∧ y.1 = bs → rdOf f i bs vs cs1 := fun y hy h => ⟨by omega, hR1, by rw [hy, ← h.1, ← h.2]⟩
          have hN : ∀ y, bldL f cs1 vs = y → ¬ (y.2 = 0 ∧ y.1 = bs) → ∀ cs, ¬ rdOf f i bs vs cs := fun y hy h cs hc => by
            have e := hRb cs hc
            have h9 := hc.2.2
            rw [← e, hy] at h9
            exact h ⟨by rw [h9], by rw [h9]⟩
          have hT := bldL_Q (f := f) (cs := cs1) (vs := vs) (by omega)
          have hW : ∀ y, bldL f cs1 vs = y → y.2 = 0 → y.1.length = wantN f := fun y hy h => by
            have h9 : bldL f cs1 vs = (y.1, 0) := by rw [hy, ← h]
            obtain ⟨g1, g2⟩ := bld_inv h9
            have := (body_w g1).2.2.2
            rw [g2, List.length_cons, this]
          generalize bldL f cs1 vs = y at *
          replace hY := hY y rfl
          replace hN := hN y rfl
          replace hW := hW y rfl
          obtain ⟨yb, yc⟩ := y
          simp only at hY hN hT hW
          repeat (first | with_reducible refine ask.of (by first | omega | decide) ?_ | simp -dsimp -implicitDefEqProofs only [go_sem, Nat.reduceBEq, Nat.reduceAdd, Nat.reduceLeDiff, Nat.reduceSub, Int.reduceEq, k1, k2, k3, k4, k10, k11, k15, s4, s47, initE, bl3])
          refine ifB'.of (fun hc => ?_) (fun hc => ?_)
          rotate_left
          · repeat' (first | exact rc_no hg (hN fun h => hc h.1) | with_reducible refine ask.of (by first | omega | decide) ?_ | simp -dsimp -implicitDefEqProofs only [go_sem, Nat.reduceBEq, Nat.reduceAdd, Nat.reduceLeDiff, Nat.reduceSub, Int.reduceEq, k1, k2, k3, k4, k10, k11, k15, s4, s47, initE, bl3])
          replace hW := hW hc
          repeat (first | with_reducible refine ask.of (by first | omega | decide) ?_ | simp -dsimp -implicitDefEqProofs only [go_sem, Nat.reduceBEq, Nat.reduceAdd, Nat.reduceLeDiff, Nat.reduceSub, Int.reduceEq, k1, k2, k3, k4, k10, k11, k15, s4, s47, initE, bl3])
          refine LoopE.cnt 3 (fun j s => s.env 2 = .rd .ent 22 1 (ra byC bs) ∧ s.env 10 = .v (.int .i64 3) ∧ s.env 11 = .ref [47] ∧ s.env 20 = .ref [201, 0] ∧ s.env 22 = .v (.int .i64 j) ∧ s.σ [47] = some (.row 145 3 (ra clC cs1)) ∧ s.σ [201, 0] = some (.row 22 1 (ra byC yb)) ∧ yb.take j = bs.take j) ⟨by simp -dsimp -implicitDefEqProofs only [go_sem, Nat.reduceBEq, Nat.reduceAdd, Nat.reduceLeDiff, Nat.reduceSub, Int.reduceEq, k1, k2, k3, k4, k10, k11, k15, s4, s47], by simp -dsimp -implicitDefEqProofs only [go_sem, Nat.reduceBEq, Nat.reduceAdd, Nat.reduceLeDiff, Nat.reduceSub, Int.reduceEq, k1, k2, k3, k4, k10, k11, k15, s4, s47], by simp -dsimp -implicitDefEqProofs only [go_sem, Nat.reduceBEq, Nat.reduceAdd, Nat.reduceLeDiff, Nat.reduceSub, Int.reduceEq, k1, k2, k3, k4, k10, k11, k15, s4, s47], by simp -dsimp -implicitDefEqProofs only [go_sem, Nat.reduceBEq, Nat.reduceAdd, Nat.reduceLeDiff, Nat.reduceSub, Int.reduceEq, k1, k2, k3, k4, k10, k11, k15, s4, s47], by simp -dsimp -implicitDefEqProofs only [go_sem, Nat.reduceBEq, Nat.reduceAdd, Nat.reduceLeDiff, Nat.reduceSub, Int.reduceEq, k1, k2, k3, k4, k10, k11, k15, s4, s47] <;> rfl, by simp -dsimp -implicitDefEqProofs only [go_sem, Nat.reduceBEq, Nat.reduceAdd, Nat.reduceLeDiff, Nat.reduceSub, Int.reduceEq, k1, k2, k3, k4, k10, k11, k15, s4, s47], by simp -dsimp -implicitDefEqProofs only [go_sem, Nat.reduceBEq, Nat.reduceAdd, Nat.reduceLeDiff, Nat.reduceSub, Int.reduceEq, k1, k2, k3, k4, k10, k11, k15, s4, s47], by simp⟩ ?_
          clear k1 k2 k3 k4 k10 k11 k15 s4 s47
          rintro j ⟨e, σ⟩ hj ⟨k2, k10, k11, k20, k22, s47, s201, hall⟩ K hK
          simp only at k2 k10 k11 k20 k22 s47 s201
          simp -dsimp -implicitDefEqProofs only [go_sem, Nat.reduceBEq, Nat.reduceAdd, Nat.reduceLeDiff, Nat.reduceSub, Int.reduceEq, k2, k10, k11, k20, k22, s47, s201]
          refine ifB'.of (fun hlt => ?_) (fun hlt => ?_)
          · have hlt : j < 3 := by omega
            have hj1 : j < yb.length := by omega
            have hj2 : j < bs.length := by omega
            repeat (first | with_reducible refine ask.of (by first | omega | decide) ?_ | simp -dsimp -implicitDefEqProofs only [go_sem, Nat.reduceBEq, Nat.reduceAdd, Nat.reduceLeDiff, Nat.reduceSub, Int.reduceEq, k2, k10, k11, k20, k22, s47, s201, byA_at hj1, byA_at hj2, bl3])
            refine CallE.of (c_l1same yb[j] bs[j] (by have := hT.2 _ (List.getElem_mem hj1); omega) (by have := hbb _ (List.getElem_mem hj2); omega)) (by rintro r rfl; trivial) (by simp -dsimp -implicitDefEqProofs only [go_sem, Nat.reduceBEq, Nat.reduceAdd, Nat.reduceLeDiff, Nat.reduceSub, Int.reduceEq, k2, k10, k11, k20, k22, s47, s201]) ?_
            rintro r rfl
            simp -dsimp -implicitDefEqProofs only [go_sem, Nat.reduceBEq, Nat.reduceAdd, Nat.reduceLeDiff, Nat.reduceSub, Int.reduceEq, k2, k10, k11, k20, k22, s47, s201]
            by_cases hq : yb[j] = bs[j]
            · simp -dsimp -implicitDefEqProofs only [go_sem, Nat.reduceBEq, Nat.reduceAdd, Nat.reduceLeDiff, Nat.reduceSub, Int.reduceEq, k2, k10, k11, k20, k22, s47, s201, decide_eq_true hq, Bool.not_true]
              refine hK _ hlt ?_
              simp -dsimp -implicitDefEqProofs only [go_sem, Nat.reduceBEq, Nat.reduceAdd, Nat.reduceLeDiff, Nat.reduceSub, Int.reduceEq, k2, k10, k11, k20, k22, s47, s201, wrap_succ (show j < 4611686018427387904 by omega)]
              exact bb_take hall hj1 hj2 hq
            · simp -dsimp -implicitDefEqProofs only [go_sem, Nat.reduceBEq, Nat.reduceAdd, Nat.reduceLeDiff, Nat.reduceSub, Int.reduceEq, k2, k10, k11, k20, k22, s47, s201, decide_eq_false hq, Bool.not_false]
              exact rc_no hg (hN fun h => bb_ne hj1 hj2 hq h.2)
          · have hje : j = 3 := by omega
            subst hje
            have e1 : yb.take 3 = yb := List.take_of_length_le (by omega)
            have e2 : bs.take 3 = bs := List.take_of_length_le (by omega)
            rw [e1, e2] at hall
            simp -dsimp -implicitDefEqProofs only [go_sem, Nat.reduceBEq, Nat.reduceAdd, Nat.reduceLeDiff, Nat.reduceSub, Int.reduceEq, k2, k10, k11, k20, k22, s47, s201]
            exact rc_yes hg hbb (hY ⟨hc, hall⟩)
    · have hz0 := nulC_map (bs.getD 0 []) m (by omega)
      repeat (first | with_reducible refine ask.of (by first | omega | decide) ?_ | simp -dsimp -implicitDefEqProofs only [go_sem, Nat.reduceBEq, Nat.reduceAdd, Nat.reduceLeDiff, Nat.reduceSub, Int.reduceEq, initE, bl3])
      refine LoopE.cnt m (fun i s => s.env 1 = .v (.int .i64 m) ∧ s.env 2 = .rd .ent 22 1 (ra byC bs) ∧ s.env 3 = .rd .ent 22 1 (ra byC vs) ∧ s.env 4 = .ptr [4] 0 0 0 ∧ s.env 10 = .v (.int .i64 3) ∧ s.env 11 = .ref [47] ∧ s.env 15 = .v (.int .i64 i) ∧
        s.σ [4] = some (.box 84 [.rd .ent 5 1 (bytesA f.f), .v (.int .i64 f.k), .v (.int .i64 f.w)]) ∧ s.σ [47] = some (.row 145 3 (ra clC (mkPre (cdS f m (bs.getD 0 []) (bs.getD 1 []) (bs.getD 2 []) vs) ((List.range m).map (nulC (bs.getD 0 []) m)) i)))) ⟨by simp -dsimp -implicitDefEqProofs only [go_sem, Nat.reduceBEq, Nat.reduceAdd, Nat.reduceLeDiff, Nat.reduceSub, Int.reduceEq, initE], by simp -dsimp -implicitDefEqProofs only [go_sem, Nat.reduceBEq, Nat.reduceAdd, Nat.reduceLeDiff, Nat.reduceSub, Int.reduceEq, initE], by simp -dsimp -implicitDefEqProofs only [go_sem, Nat.reduceBEq, Nat.reduceAdd, Nat.reduceLeDiff, Nat.reduceSub, Int.reduceEq, initE], by simp -dsimp -implicitDefEqProofs only [go_sem, Nat.reduceBEq, Nat.reduceAdd, Nat.reduceLeDiff, Nat.reduceSub, Int.reduceEq], by simp -dsimp -implicitDefEqProofs only [go_sem, Nat.reduceBEq, Nat.reduceAdd, Nat.reduceLeDiff, Nat.reduceSub, Int.reduceEq], by simp -dsimp -implicitDefEqProofs only [go_sem, Nat.reduceBEq, Nat.reduceAdd, Nat.reduceLeDiff, Nat.reduceSub, Int.reduceEq], by simp -dsimp -implicitDefEqProofs only [go_sem, Nat.reduceBEq, Nat.reduceAdd, Nat.reduceLeDiff, Nat.reduceSub, Int.reduceEq] <;> rfl, by simp -dsimp -implicitDefEqProofs only [go_sem, Nat.reduceBEq, Nat.reduceAdd, Nat.reduceLeDiff, Nat.reduceSub, Int.reduceEq, initE], by simp -dsimp -implicitDefEqProofs only [go_sem, Nat.reduceBEq, Nat.reduceAdd, Nat.reduceLeDiff, Nat.reduceSub, Int.reduceEq, mkPre_zero, hz0] <;> exact congrArg (fun l => some (OB.row 145 3 l)) (Cl_zeros m)⟩ ?_
      rintro i ⟨e, σ⟩ hi ⟨k1, k2, k3, k4, k10, k11, k15, s4, s47⟩ K hK
      simp only at k1 k2 k3 k4 k10 k11 k15 s4 s47
      simp -dsimp -implicitDefEqProofs only [go_sem, Nat.reduceBEq, Nat.reduceAdd, Nat.reduceLeDiff, Nat.reduceSub, Int.reduceEq, k1, k2, k3, k4, k10, k11, k15, s4, s47]
      have hnl : ((List.range m).map (nulC (bs.getD 0 []) m)).length = m := by simp
      refine ifB'.of (fun hlt => ?_) (fun hlt => ?_)
      · have hlt : i < m := by omega
        have hni : ((List.range m).map (nulC (bs.getD 0 []) m))[i]'(by omega) = nulC (bs.getD 0 []) m i := by simp
        have hma : (ra clC (mkPre (cdS f m (bs.getD 0 []) (bs.getD 1 []) (bs.getD 2 []) vs) ((List.range m).map (nulC (bs.getD 0 []) m)) i))[i]? = some (clC (nulC (bs.getD 0 []) m i)) := ra_at' (by rw [mkPre_at _ (show i < ((List.range m).map (nulC (bs.getD 0 []) m)).length by omega), hni])
        have hml := mkPre_length (cdS f m (bs.getD 0 []) (bs.getD 1 []) (bs.getD 2 []) vs) (xs := (List.range m).map (nulC (bs.getD 0 []) m)) (i := i) (by omega)
        have hset : ∀ y, y = cdS f m (bs.getD 0 []) (bs.getD 1 []) (bs.getD 2 []) vs i → (ra clC (mkPre (cdS f m (bs.getD 0 []) (bs.getD 1 []) (bs.getD 2 []) vs) ((List.range m).map (nulC (bs.getD 0 []) m)) i)).set i (clC y) = ra clC (mkPre (cdS f m (bs.getD 0 []) (bs.getD 1 []) (bs.getD 2 []) vs) ((List.range m).map (nulC (bs.getD 0 []) m)) (i + 1)) := fun y hy => by
          rw [ra_set, mkPre_set _ _ (by omega) hy]
        have hkeep : nulC (bs.getD 0 []) m i = cdS f m (bs.getD 0 []) (bs.getD 1 []) (bs.getD 2 []) vs i → mkPre (cdS f m (bs.getD 0 []) (bs.getD 1 []) (bs.getD 2 []) vs) ((List.range m).map (nulC (bs.getD 0 []) m)) (i + 1) = mkPre (cdS f m (bs.getD 0 []) (bs.getD 1 []) (bs.getD 2 []) vs) ((List.range m).map (nulC (bs.getD 0 []) m)) i := fun h => mkPre_keep _ (by omega) (by rw [hni, h])
        have hi1 : IntKind.i64.wrap ((i : Int) + 1) = ((i + 1 : Nat) : Int) := wrap_succ (by omega)
        repeat (first | with_reducible refine ask.of (by first | omega | decide) ?_ | simp -dsimp -implicitDefEqProofs only [go_sem, Nat.reduceBEq, Nat.reduceAdd, Nat.reduceLeDiff, Nat.reduceSub, Int.reduceEq, k1, k2, k3, k4, k10, k11, k15, s4, s47, hma, clC, nulC, bl3, hml, hnl, ra_length])
        cases hz : nulS (bs.getD 0 []) m i
        rotate_left
        · have hc : nulC (bs.getD 0 []) m i = cdS f m (bs.getD 0 []) (bs.getD 1 []) (bs.getD 2 []) vs i := by rw [cdS, hz, if_pos rfl, nulC, hz]
          repeat (first | with_reducible refine ask.of (by first | omega | decide) ?_ | simp -dsimp -implicitDefEqProofs only [go_sem, Nat.reduceBEq, Nat.reduceAdd, Nat.reduceLeDiff, Nat.reduceSub, Int.reduceEq, k1, k2, k3, k4, k10, k11, k15, s4, s47, hz, bl3])
          refine hK _ hlt ?_
          simp -dsimp -implicitDefEqProofs only [go_sem, Nat.reduceBEq, Nat.reduceAdd, Nat.reduceLeDiff, Nat.reduceSub, Int.reduceEq, k1, k2, k3, k4, k10, k11, k15, s4, s47, hi1, hkeep hc]
        have hcd : cdS f m (bs.getD 0 []) (bs.getD 1 []) (bs.getD 2 []) vs i = if f.k = 0 then ⟨false, if bitB (bs.getD 1 []) i = true then 1 else 0, []⟩ else if f.k = 1 then ⟨false, (unpackIC (bs.getD 1 []) f.w).1.getD i 0, []⟩ else if f.k = 2 then ⟨false, 0, (splL (bs.getD 1 []) (bs.getD 2 []) m).1.getD i []⟩ else ⟨false, 0, if i < (bs.getD 1 []).length ∧ ((bs.getD 1 []).getD i 0).toNat < vs.length then vs.getD ((bs.getD 1 []).getD i 0).toNat [] else []⟩ := by
          rw [cdS, hz]; rfl
        have hnc : nulC (bs.getD 0 []) m i = ⟨false, 0, []⟩ := by rw [nulC, hz]
        have hma2 : (ra clC (mkPre (cdS f m (bs.getD 0 []) (bs.getD 1 []) (bs.getD 2 []) vs) ((List.range m).map (nulC (bs.getD 0 []) m)) i))[i]? = some [.v (.bool false), .v (.int .i64 0), .row 5 1 []] := by rw [hma, hnc]; rfl
        repeat (first | with_reducible refine ask.of (by first | omega | decide) ?_ | simp -dsimp -implicitDefEqProofs only [go_sem, Nat.reduceBEq, Nat.reduceAdd, Nat.reduceLeDiff, Nat.reduceSub, Int.reduceEq, k1, k2, k3, k4, k10, k11, k15, s4, s47, hz, bl3])
        refine ifB'.no (by omega) ?_
        repeat (first | with_reducible refine ask.of (by first | omega | decide) ?_ | simp -dsimp -implicitDefEqProofs only [go_sem, Nat.reduceBEq, Nat.reduceAdd, Nat.reduceLeDiff, Nat.reduceSub, Int.reduceEq, k1, k2, k3, k4, k10, k11, k15, s4, s47, bl3])
        refine ifB'.no (by omega) ?_
        repeat (first | with_reducible refine ask.of (by first | omega | decide) ?_ | simp -dsimp -implicitDefEqProofs only [go_sem, Nat.reduceBEq, Nat.reduceAdd, Nat.reduceLeDiff, Nat.reduceSub, Int.reduceEq, k1, k2, k3, k4, k10, k11, k15, s4, s47, bl3])
        refine ifB'.yes hk2 ?_
        repeat (first | with_reducible refine ask.of (by first | omega | decide) ?_ | simp -dsimp -implicitDefEqProofs only [go_sem, Nat.reduceBEq, Nat.reduceAdd, Nat.reduceLeDiff, Nat.reduceSub, Int.reduceEq, k1, k2, k3, k4, k10, k11, k15, s4, s47, bl3, it012, bs_at (show 1 < bs.length by omega), bs_at (show 2 < bs.length by omega)])
        refine CallE.of (c_l2split (bs.getD 1 []) (bs.getD 2 []) m hm (bs_le hbb 1) (bs_le hbb 2)) (by rintro r rfl; (repeat' first | exact trivial | exact pure_rowB _ | exact pure_rowO _ | exact pure_rowI _ | exact pure_rowBB _ | exact pure_rowPk _ _ | exact pure_rowSn _ _ | exact pure_rowFd _ _ | exact pure_rowBBB _ | exact pure_rowCl _ _ | exact pure_rowTb _ _ _ | refine And.intro ?_ ?_)) (by simp -dsimp -implicitDefEqProofs only [go_sem, Nat.reduceBEq, Nat.reduceAdd, Nat.reduceLeDiff, Nat.reduceSub, Int.reduceEq, k1, k2, k3, k4, k10, k11, k15, s4, s47]) ?_
        rintro r rfl
        simp -dsimp -implicitDefEqProofs only [go_sem, Nat.reduceBEq, Nat.reduceAdd, Nat.reduceLeDiff, Nat.reduceSub, Int.reduceEq, k1, k2, k3, k4, k10, k11, k15, s4, s47]
        rw [if_neg (by omega), if_neg (by omega), if_pos hk2] at hcd
        have hsl : (splL (bs.getD 1 []) (bs.getD 2 []) m).2 = true → (splL (bs.getD 1 []) (bs.getD 2 []) m).1.length = m := fun h => by
          by_cases hs : (unpackIC (bs.getD 1 []) 4).2 = 0 ∧ splOk (unpackIC (bs.getD 1 []) 4).1 (bs.getD 2 []).length m
          · rw [splL_yes hs.1 hs.2]; simp
          · rw [splL_no hs] at h; cases h
        have hsn : (splL (bs.getD 1 []) (bs.getD 2 []) m).2 = false → (splL (bs.getD 1 []) (bs.getD 2 []) m).1 = [] := fun h => by
          by_cases hs : (unpackIC (bs.getD 1 []) 4).2 = 0 ∧ splOk (unpackIC (bs.getD 1 []) 4).1 (bs.getD 2 []).length m
          · rw [splL_yes hs.1 hs.2] at h; cases h
          · rw [splL_no hs]
        generalize splL (bs.getD 1 []) (bs.getD 2 []) m = sp at hcd hsl hsn
        obtain ⟨tx, ok⟩ := sp
        simp only at hcd hsl hsn
        cases ok
        · have hc : nulC (bs.getD 0 []) m i = cdS f m (bs.getD 0 []) (bs.getD 1 []) (bs.getD 2 []) vs i := by rw [hcd, hnc, hsn rfl]; rfl
          repeat (first | with_reducible refine ask.of (by first | omega | decide) ?_ | simp -dsimp -implicitDefEqProofs only [go_sem, Nat.reduceBEq, Nat.reduceAdd, Nat.reduceLeDiff, Nat.reduceSub, Int.reduceEq, k1, k2, k3, k4, k10, k11, k15, s4, s47, bl3])
          refine hK _ hlt ?_
          simp -dsimp -implicitDefEqProofs only [go_sem, Nat.reduceBEq, Nat.reduceAdd, Nat.reduceLeDiff, Nat.reduceSub, Int.reduceEq, k1, k2, k3, k4, k10, k11, k15, s4, s47, hi1, hkeep hc]
        · have htx : i < tx.length := by rw [hsl rfl]; exact hlt
          repeat (first | with_reducible refine ask.of (by first | omega | decide) ?_ | simp -dsimp -implicitDefEqProofs only [go_sem, Nat.reduceBEq, Nat.reduceAdd, Nat.reduceLeDiff, Nat.reduceSub, Int.reduceEq, k1, k2, k3, k4, k10, k11, k15, s4, s47, bl3, byA_at htx, hma2, hml, hnl, ra_length])
          refine hK _ hlt ?_
          simp -dsimp -implicitDefEqProofs only [go_sem, Nat.reduceBEq, Nat.reduceAdd, Nat.reduceLeDiff, Nat.reduceSub, Int.reduceEq, k1, k2, k3, k4, k10, k11, k15, s4, s47, hi1]
          exact congrArg (fun l => some (OB.row 145 3 l)) (hset ⟨false, 0, tx[i]⟩ (by rw [hcd]; simp [List.getD, htx]))
      · have hie : i = m := by omega
        subst hie
        have hfull : mkPre (cdS f i (bs.getD 0 []) (bs.getD 1 []) (bs.getD 2 []) vs) ((List.range i).map (nulC (bs.getD 0 []) i)) i = rdS f i (bs.getD 0 []) (bs.getD 1 []) (bs.getD 2 []) vs := by
          have := mkPre_full (cdS f i (bs.getD 0 []) (bs.getD 1 []) (bs.getD 2 []) vs) ((List.range i).map (nulC (bs.getD 0 []) i))
          rw [hnl] at this
          exact this
        rw [hfull] at s47
        clear hK
        generalize rdS f i (bs.getD 0 []) (bs.getD 1 []) (bs.getD 2 []) vs = cs1 at *
        simp -dsimp -implicitDefEqProofs only [go_sem, Nat.reduceBEq, Nat.reduceAdd, Nat.reduceLeDiff, Nat.reduceSub, Int.reduceEq, k1, k2, k3, k4, k10, k11, k15, s4, s47]
        repeat (first | with_reducible refine ask.of (by first | omega | decide) ?_ | simp -dsimp -implicitDefEqProofs only [go_sem, Nat.reduceBEq, Nat.reduceAdd, Nat.reduceLeDiff, Nat.reduceSub, Int.reduceEq, k1, k2, k3, k4, k10, k11, k15, s4, s47, initE, bl3])
        refine CallE.of (c_specBuildColumn f cs1 vs hf (by omega) (by omega)) (by rintro r rfl; (repeat' first | exact trivial | exact pure_rowB _ | exact pure_rowO _ | exact pure_rowI _ | exact pure_rowBB _ | exact pure_rowPk _ _ | exact pure_rowSn _ _ | exact pure_rowFd _ _ | exact pure_rowBBB _ | exact pure_rowCl _ _ | exact pure_rowTb _ _ _ | refine And.intro ?_ ?_)) (by simp -dsimp -implicitDefEqProofs only [go_sem, Nat.reduceBEq, Nat.reduceAdd, Nat.reduceLeDiff, Nat.reduceSub, Int.reduceEq, k1, k2, k3, k4, k10, k11, k15, s4, s47, fdC, rowCl]) ?_
        rintro r rfl
        simp -dsimp -implicitDefEqProofs only [go_sem, Nat.reduceBEq, Nat.reduceAdd, Nat.reduceLeDiff, Nat.reduceSub, Int.reduceEq, k1, k2, k3, k4, k10, k11, k15, s4, s47, fdC, rowCl]
        unfold resB
        have hY : ∀ y, bldL f cs1 vs = y → y.2 = 0 ∧ y.1 = bs → rdOf f i bs vs cs1 := fun y hy h => ⟨by omega, hR1, by rw [hy, ← h.1, ← h.2]⟩
        have hN : ∀ y, bldL f cs1 vs = y → ¬ (y.2 = 0 ∧ y.1 = bs) → ∀ cs, ¬ rdOf f i bs vs cs := fun y hy h cs hc => by
          have e := hRb cs hc
          have h9 := hc.2.2
          rw [← e, hy] at h9
          exact h ⟨by rw [h9], by rw [h9]⟩
        have hT := bldL_Q (f := f) (cs := cs1) (vs := vs) (by omega)
        have hW : ∀ y, bldL f cs1 vs = y → y.2 = 0 → y.1.length = wantN f := fun y hy h => by
          have h9 : bldL f cs1 vs = (y.1, 0) := by rw [hy, ← h]
          obtain ⟨g1, g2⟩ := bld_inv h9
          have := (body_w g1).2.2.2
          rw [g2, List.length_cons, this]
        generalize bldL f cs1 vs = y at *
        replace hY := hY y rfl
        replace hN := hN y rfl
        replace hW := hW y rfl
        obtain ⟨yb, yc⟩ := y
        simp only at hY hN hT hW
        repeat (first | with_reducible refine ask.of (by first | omega | decide) ?_ | simp -dsimp -implicitDefEqProofs only [go_sem, Nat.reduceBEq, Nat.reduceAdd, Nat.reduceLeDiff, Nat.reduceSub, Int.reduceEq, k1, k2, k3, k4, k10, k11, k15, s4, s47, initE, bl3])
        refine ifB'.of (fun hc => ?_) (fun hc => ?_)
        rotate_left
        · repeat' (first | exact rc_no hg (hN fun h => hc h.1) | with_reducible refine ask.of (by first | omega | decide) ?_ | simp -dsimp -implicitDefEqProofs only [go_sem, Nat.reduceBEq, Nat.reduceAdd, Nat.reduceLeDiff, Nat.reduceSub, Int.reduceEq, k1, k2, k3, k4, k10, k11, k15, s4, s47, initE, bl3])
        replace hW := hW hc
        repeat (first | with_reducible refine ask.of (by first | omega | decide) ?_ | simp -dsimp -implicitDefEqProofs only [go_sem, Nat.reduceBEq, Nat.reduceAdd, Nat.reduceLeDiff, Nat.reduceSub, Int.reduceEq, k1, k2, k3, k4, k10, k11, k15, s4, s47, initE, bl3])
        refine LoopE.cnt 3 (fun j s => s.env 2 = .rd .ent 22 1 (ra byC bs) ∧ s.env 10 = .v (.int .i64 3) ∧ s.env 11 = .ref [47] ∧ s.env 20 = .ref [201, 0] ∧ s.env 22 = .v (.int .i64 j) ∧ s.σ [47] = some (.row 145 3 (ra clC cs1)) ∧ s.σ [201, 0] = some (.row 22 1 (ra byC yb)) ∧ yb.take j = bs.take j) ⟨by simp -dsimp -implicitDefEqProofs only [go_sem, Nat.reduceBEq, Nat.reduceAdd, Nat.reduceLeDiff, Nat.reduceSub, Int.reduceEq, k1, k2, k3, k4, k10, k11, k15, s4, s47], by simp -dsimp -implicitDefEqProofs only [go_sem, Nat.reduceBEq, Nat.reduceAdd, Nat.reduceLeDiff, Nat.reduceSub, Int.reduceEq, k1, k2, k3, k4, k10, k11, k15, s4, s47], by simp -dsimp -implicitDefEqProofs only [go_sem, Nat.reduceBEq, Nat.reduceAdd, Nat.reduceLeDiff, Nat.reduceSub, Int.reduceEq, k1, k2, k3, k4, k10, k11, k15, s4, s47], by simp -dsimp -implicitDefEqProofs only [go_sem, Nat.reduceBEq, Nat.reduceAdd, Nat.reduceLeDiff, Nat.reduceSub, Int.reduceEq, k1, k2, k3, k4, k10, k11, k15, s4, s47], by simp -dsimp -implicitDefEqProofs only [go_sem, Nat.reduceBEq, Nat.reduceAdd, Nat.reduceLeDiff, Nat.reduceSub, Int.reduceEq, k1, k2, k3, k4, k10, k11, k15, s4, s47] <;> rfl, by simp -dsimp -implicitDefEqProofs only [go_sem, Nat.reduceBEq, Nat.reduceAdd, Nat.reduceLeDiff, Nat.reduceSub, Int.reduceEq, k1, k2, k3, k4, k10, k11, k15, s4, s47], by simp -dsimp -implicitDefEqProofs only [go_sem, Nat.reduceBEq, Nat.reduceAdd, Nat.reduceLeDiff, Nat.reduceSub, Int.reduceEq, k1, k2, k3, k4, k10, k11, k15, s4, s47], by simp⟩ ?_
        clear k1 k2 k3 k4 k10 k11 k15 s4 s47
        rintro j ⟨e, σ⟩ hj ⟨k2, k10, k11, k20, k22, s47, s201, hall⟩ K hK
        simp only at k2 k10 k11 k20 k22 s47 s201
        simp -dsimp -implicitDefEqProofs only [go_sem, Nat.reduceBEq, Nat.reduceAdd, Nat.reduceLeDiff, Nat.reduceSub, Int.reduceEq, k2, k10, k11, k20, k22, s47, s201]
        refine ifB'.of (fun hlt => ?_) (fun hlt => ?_)
        · have hlt : j < 3 := by omega
          have hj1 : j < yb.length := by omega
          have hj2 : j < bs.length := by omega
          repeat (first | with_reducible refine ask.of (by first | omega | decide) ?_ | simp -dsimp -implicitDefEqProofs only [go_sem, Nat.reduceBEq, Nat.reduceAdd, Nat.reduceLeDiff, Nat.reduceSub, Int.reduceEq, k2, k10, k11, k20, k22, s47, s201, byA_at hj1, byA_at hj2, bl3])
          refine CallE.of (c_l1same yb[j] bs[j] (by have := hT.2 _ (List.getElem_mem hj1); omega) (by have := hbb _ (List.getElem_mem hj2); omega)) (by rintro r rfl; trivial) (by simp -dsimp -implicitDefEqProofs only [go_sem, Nat.reduceBEq, Nat.reduceAdd, Nat.reduceLeDiff, Nat.reduceSub, Int.reduceEq, k2, k10, k11, k20, k22, s47, s201]) ?_
          rintro r rfl
          simp -dsimp -implicitDefEqProofs only [go_sem, Nat.reduceBEq, Nat.reduceAdd, Nat.reduceLeDiff, Nat.reduceSub, Int.reduceEq, k2, k10, k11, k20, k22, s47, s201]
          by_cases hq : yb[j] = bs[j]
          · simp -dsimp -implicitDefEqProofs only [go_sem, Nat.reduceBEq, Nat.reduceAdd, Nat.reduceLeDiff, Nat.reduceSub, Int.reduceEq, k2, k10, k11, k20, k22, s47, s201, decide_eq_true hq, Bool.not_true]
            refine hK _ hlt ?_
            simp -dsimp -implicitDefEqProofs only [go_sem, Nat.reduceBEq, Nat.reduceAdd, Nat.reduceLeDiff, Nat.reduceSub, Int.reduceEq, k2, k10, k11, k20, k22, s47, s201, wrap_succ (show j < 4611686018427387904 by omega)]
            exact bb_take hall hj1 hj2 hq
          · simp -dsimp -implicitDefEqProofs only [go_sem, Nat.reduceBEq, Nat.reduceAdd, Nat.reduceLeDiff, Nat.reduceSub, Int.reduceEq, k2, k10, k11, k20, k22, s47, s201, decide_eq_false hq, Bool.not_false]
            exact rc_no hg (hN fun h => bb_ne hj1 hj2 hq h.2)
        · have hje : j = 3 := by omega
          subst hje
          have e1 : yb.take 3 = yb := List.take_of_length_le (by omega)
          have e2 : bs.take 3 = bs := List.take_of_length_le (by omega)
          rw [e1, e2] at hall
          simp -dsimp -implicitDefEqProofs only [go_sem, Nat.reduceBEq, Nat.reduceAdd, Nat.reduceLeDiff, Nat.reduceSub, Int.reduceEq, k2, k10, k11, k20, k22, s47, s201]
          exact rc_yes hg hbb (hY ⟨hc, hall⟩)
  · have hwn : wantN f = 2 := by unfold wantN; rw [if_neg hk2]
    repeat (first | with_reducible refine ask.of (by first | omega | decide) ?_ | simp -dsimp -implicitDefEqProofs only [go_sem, Nat.reduceBEq, Nat.reduceAdd, Nat.reduceLeDiff, Nat.reduceSub, Int.reduceEq, initE, bl3])
    refine ifB'.of (fun hl => ?_) (fun hl => ?_)
    rotate_left
    · repeat (first | with_reducible refine ask.of (by first | omega | decide) ?_ | simp -dsimp -implicitDefEqProofs only [go_sem, Nat.reduceBEq, Nat.reduceAdd, Nat.reduceLeDiff, Nat.reduceSub, Int.reduceEq, initE, bl3])
      exact rc_no hg fun cs h => hl (by have := (rd_parts h).2.2.2.2.2; omega)
    repeat (first | with_reducible refine ask.of (by first | omega | decide) ?_ | simp -dsimp -implicitDefEqProofs only [go_sem, Nat.reduceBEq, Nat.reduceAdd, Nat.reduceLeDiff, Nat.reduceSub, Int.reduceEq, initE, bl3, it012, bs_at (show 0 < bs.length by omega)])
    refine ifB'.of (fun hv0 => ?_) (fun hv0 => ?_)
    · repeat (first | with_reducible refine ask.of (by first | omega | decide) ?_ | simp -dsimp -implicitDefEqProofs only [go_sem, Nat.reduceBEq, Nat.reduceAdd, Nat.reduceLeDiff, Nat.reduceSub, Int.reduceEq, initE, bl3, it012, bs_at (show 0 < bs.length by omega)])
      refine CallE.of (hU) (by rintro r rfl; (repeat' first | exact trivial | exact pure_rowB _ | exact pure_rowO _ | exact pure_rowI _ | exact pure_rowBB _ | exact pure_rowPk _ _ | exact pure_rowSn _ _ | exact pure_rowFd _ _ | exact pure_rowBBB _ | exact pure_rowCl _ _ | exact pure_rowTb _ _ _ | refine And.intro ?_ ?_)) (by simp -dsimp -implicitDefEqProofs only [go_sem, Nat.reduceBEq, Nat.reduceAdd, Nat.reduceLeDiff, Nat.reduceSub, Int.reduceEq]) ?_
      rintro r rfl
      simp -dsimp -implicitDefEqProofs only [go_sem, Nat.reduceBEq, Nat.reduceAdd, Nat.reduceLeDiff, Nat.reduceSub, Int.reduceEq]
      have hV : ∀ cs, rdOf f m bs vs cs → unpackC (bs.getD 0 []) m = (thereL cs, 0) := fun cs h => by
        obtain ⟨_, g1, g2, _⟩ := rd_parts h
        have g1 : m = cs.length := by omega
        rcases valid_cases cs with ⟨g3, _⟩ | ⟨_, g4⟩
        · rw [g2, g3] at hv0; exact absurd hv0 (by decide)
        · rw [g1, g2]; exact g4
      have hNs : ∀ j, nulS (bs.getD 0 []) m j = !((unpackC (bs.getD 0 []) m).1.getD j false) := fun j => by
        have : 0 < (bs.getD 0 []).length := by omega
        rw [nulS, if_pos this]
      generalize unpackC (bs.getD 0 []) m = u at *
      obtain ⟨ts, tc⟩ := u
      simp only at hUl hNs
      repeat (first | with_reducible refine ask.of (by first | omega | decide) ?_ | simp -dsimp -implicitDefEqProofs only [go_sem, Nat.reduceBEq, Nat.reduceAdd, Nat.reduceLeDiff, Nat.reduceSub, Int.reduceEq, initE, bl3])
      refine ifB'.of (fun hc2 => ?_) (fun hc2 => ?_)
      rotate_left
      · repeat' (first | exact rc_no hg fun cs h => hc2 (by have e9 := hV cs h; simp only [Prod.mk.injEq] at e9; omega) | with_reducible refine ask.of (by first | omega | decide) ?_ | simp -dsimp -implicitDefEqProofs only [go_sem, Nat.reduceBEq, Nat.reduceAdd, Nat.reduceLeDiff, Nat.reduceSub, Int.reduceEq, initE, bl3])
      have htl : ts.length = m := by have := (hUl (by omega)).1; omega
      repeat (first | with_reducible refine ask.of (by first | omega | decide) ?_ | simp -dsimp -implicitDefEqProofs only [go_sem, Nat.reduceBEq, Nat.reduceAdd, Nat.reduceLeDiff, Nat.reduceSub, Int.reduceEq, initE, bl3])
      refine LoopE.cnt m (fun i s => s.env 1 = .v (.int .i64 m) ∧ s.env 2 = .rd .ent 22 1 (ra byC bs) ∧ s.env 3 = .rd .ent 22 1 (ra byC vs) ∧ s.env 4 = .ptr [4] 0 0 0 ∧ s.env 10 = .v (.int .i64 2) ∧ s.env 11 = .ref [47] ∧ s.env 12 = .ref [58, 0] ∧ s.env 14 = .v (.int .i64 i) ∧
        s.σ [4] = some (.box 84 [.rd .ent 5 1 (bytesA f.f), .v (.int .i64 f.k), .v (.int .i64 f.w)]) ∧ s.σ [58, 0] = some (.row 4 1 (ra boolC ts)) ∧ s.σ [47] = some (.row 145 3 (ra clC (mkPre (nulC (bs.getD 0 []) m) (List.replicate m cl0) i)))) ⟨by simp -dsimp -implicitDefEqProofs only [go_sem, Nat.reduceBEq, Nat.reduceAdd, Nat.reduceLeDiff, Nat.reduceSub, Int.reduceEq, initE], by simp -dsimp -implicitDefEqProofs only [go_sem, Nat.reduceBEq, Nat.reduceAdd, Nat.reduceLeDiff, Nat.reduceSub, Int.reduceEq, initE], by simp -dsimp -implicitDefEqProofs only [go_sem, Nat.reduceBEq, Nat.reduceAdd, Nat.reduceLeDiff, Nat.reduceSub, Int.reduceEq, initE], by simp -dsimp -implicitDefEqProofs only [go_sem, Nat.reduceBEq, Nat.reduceAdd, Nat.reduceLeDiff, Nat.reduceSub, Int.reduceEq], by simp -dsimp -implicitDefEqProofs only [go_sem, Nat.reduceBEq, Nat.reduceAdd, Nat.reduceLeDiff, Nat.reduceSub, Int.reduceEq], by simp -dsimp -implicitDefEqProofs only [go_sem, Nat.reduceBEq, Nat.reduceAdd, Nat.reduceLeDiff, Nat.reduceSub, Int.reduceEq], by simp -dsimp -implicitDefEqProofs only [go_sem, Nat.reduceBEq, Nat.reduceAdd, Nat.reduceLeDiff, Nat.reduceSub, Int.reduceEq], by simp -dsimp -implicitDefEqProofs only [go_sem, Nat.reduceBEq, Nat.reduceAdd, Nat.reduceLeDiff, Nat.reduceSub, Int.reduceEq] <;> rfl, by simp -dsimp -implicitDefEqProofs only [go_sem, Nat.reduceBEq, Nat.reduceAdd, Nat.reduceLeDiff, Nat.reduceSub, Int.reduceEq, initE], by simp -dsimp -implicitDefEqProofs only [go_sem, Nat.reduceBEq, Nat.reduceAdd, Nat.reduceLeDiff, Nat.reduceSub, Int.reduceEq], by simp -dsimp -implicitDefEqProofs only [go_sem, Nat.reduceBEq, Nat.reduceAdd, Nat.reduceLeDiff, Nat.reduceSub, Int.reduceEq, mkPre_zero] <;> exact congrArg (fun l => some (OB.row 145 3 l)) (Cl_zeros m)⟩ ?_
      rintro i ⟨e, σ⟩ hi ⟨k1, k2, k3, k4, k10, k11, k12, k14, s4, s58, s47⟩ K hK
      simp only at k1 k2 k3 k4 k10 k11 k12 k14 s4 s58 s47
      simp -dsimp -implicitDefEqProofs only [go_sem, Nat.reduceBEq, Nat.reduceAdd, Nat.reduceLeDiff, Nat.reduceSub, Int.reduceEq, k1, k2, k3, k4, k10, k11, k12, k14, s4, s58, s47]
      refine ifB'.of (fun hlt => ?_) (fun hlt => ?_)
      · have hlt : i < m := by omega
        have hlt1 : i < ts.length := by omega
        have hml := mkPre_length (nulC (bs.getD 0 []) m) (xs := List.replicate m cl0) (i := i) (by rw [List.length_replicate]; exact hi)
        rw [List.length_replicate] at hml
        have hma : (ra clC (mkPre (nulC (bs.getD 0 []) m) (List.replicate m cl0) i))[i]? = some [.v (.bool false), .v (.int .i64 0), .row 5 1 []] := ra_at' (x := cl0) (by rw [mkPre_at _ (show i < (List.replicate m cl0).length by rw [List.length_replicate]; omega)]; simp)
        repeat (first | with_reducible refine ask.of (by first | omega | decide) ?_ | simp -dsimp -implicitDefEqProofs only [go_sem, Nat.reduceBEq, Nat.reduceAdd, Nat.reduceLeDiff, Nat.reduceSub, Int.reduceEq, k1, k2, k3, k4, k10, k11, k12, k14, s4, s58, s47, boolA_at hlt1, hma, bl3, hml, ra_length])
        refine hK _ hlt ?_
        simp -dsimp -implicitDefEqProofs only [go_sem, Nat.reduceBEq, Nat.reduceAdd, Nat.reduceLeDiff, Nat.reduceSub, Int.reduceEq, k1, k2, k3, k4, k10, k11, k12, k14, s4, s58, s47, wrap_succ (show i < 4611686018427387904 by omega)]
        refine congrArg (fun l => some (OB.row 145 3 l)) ?_
        have hy : (⟨!ts[i], 0, []⟩ : Cl) = nulC (bs.getD 0 []) m i := by rw [nulC, hNs]; simp [List.getD, hlt1]
        exact (ra_set _ i ⟨!ts[i], 0, []⟩).trans (congrArg (ra clC) (mkPre_set (nulC (bs.getD 0 []) m) (List.replicate m cl0) (by rw [List.length_replicate]; exact hlt) hy))
      · have hie : i = m := by omega
        subst hie
        have hfu : mkPre (nulC (bs.getD 0 []) i) (List.replicate i cl0) i = (List.range i).map (nulC (bs.getD 0 []) i) := by
          have := mkPre_full (nulC (bs.getD 0 []) i) (List.replicate i cl0)
          rw [List.length_replicate] at this
          exact this
        rw [hfu] at s47
        clear hK
        generalize i = m at *
        simp -dsimp -implicitDefEqProofs only [go_sem, Nat.reduceBEq, Nat.reduceAdd, Nat.reduceLeDiff, Nat.reduceSub, Int.reduceEq, k1, k2, k3, k4, k10, k11, k12, k14, s4, s58, s47]
        repeat (first | with_reducible refine ask.of (by first | omega | decide) ?_ | simp -dsimp -implicitDefEqProofs only [go_sem, Nat.reduceBEq, Nat.reduceAdd, Nat.reduceLeDiff, Nat.reduceSub, Int.reduceEq, k1, k2, k3, k4, k10, k11, k12, k14, s4, s58, s47, initE, bl3])
        refine LoopE.cnt m (fun i s => s.env 1 = .v (.int .i64 m) ∧ s.env 2 = .rd .ent 22 1 (ra byC bs) ∧ s.env 3 = .rd .ent 22 1 (ra byC vs) ∧ s.env 4 = .ptr [4] 0 0 0 ∧ s.env 10 = .v (.int .i64 2) ∧ s.env 11 = .ref [47] ∧ s.env 15 = .v (.int .i64 i) ∧
          s.σ [4] = some (.box 84 [.rd .ent 5 1 (bytesA f.f), .v (.int .i64 f.k), .v (.int .i64 f.w)]) ∧ s.σ [47] = some (.row 145 3 (ra clC (mkPre (cdS f m (bs.getD 0 []) (bs.getD 1 []) (bs.getD 2 []) vs) ((List.range m).map (nulC (bs.getD 0 []) m)) i)))) ⟨by simp -dsimp -implicitDefEqProofs only [go_sem, Nat.reduceBEq, Nat.reduceAdd, Nat.reduceLeDiff, Nat.reduceSub, Int.reduceEq, k1, k2, k3, k4, k10, k11, k12, k14, s4, s58, s47], by simp -dsimp -implicitDefEqProofs only [go_sem, Nat.reduceBEq, Nat.reduceAdd, Nat.reduceLeDiff, Nat.reduceSub, Int.reduceEq, k1, k2, k3, k4, k10, k11, k12, k14, s4, s58, s47], by simp -dsimp -implicitDefEqProofs only [go_sem, Nat.reduceBEq, Nat.reduceAdd, Nat.reduceLeDiff, Nat.reduceSub, Int.reduceEq, k1, k2, k3, k4, k10, k11, k12, k14, s4, s58, s47], by simp -dsimp -implicitDefEqProofs only [go_sem, Nat.reduceBEq, Nat.reduceAdd, Nat.reduceLeDiff, Nat.reduceSub, Int.reduceEq, k1, k2, k3, k4, k10, k11, k12, k14, s4, s58, s47], by simp -dsimp -implicitDefEqProofs only [go_sem, Nat.reduceBEq, Nat.reduceAdd, Nat.reduceLeDiff, Nat.reduceSub, Int.reduceEq, k1, k2, k3, k4, k10, k11, k12, k14, s4, s58, s47], by simp -dsimp -implicitDefEqProofs only [go_sem, Nat.reduceBEq, Nat.reduceAdd, Nat.reduceLeDiff, Nat.reduceSub, Int.reduceEq, k1, k2, k3, k4, k10, k11, k12, k14, s4, s58, s47], by simp -dsimp -implicitDefEqProofs only [go_sem, Nat.reduceBEq, Nat.reduceAdd, Nat.reduceLeDiff, Nat.reduceSub, Int.reduceEq, k1, k2, k3, k4, k10, k11, k12, k14, s4, s58, s47] <;> rfl, by simp -dsimp -implicitDefEqProofs only [go_sem, Nat.reduceBEq, Nat.reduceAdd, Nat.reduceLeDiff, Nat.reduceSub, Int.reduceEq, k1, k2, k3, k4, k10, k11, k12, k14, s4, s58, s47], by simp -dsimp -implicitDefEqProofs only [go_sem, Nat.reduceBEq, Nat.reduceAdd, Nat.reduceLeDiff, Nat.reduceSub, Int.reduceEq, k1, k2, k3, k4, k10, k11, k12, k14, s4, s58, s47, mkPre_zero]⟩ ?_
        clear k1 k2 k3 k4 k10 k11 k12 k14 s4 s58 s47
        rintro i ⟨e, σ⟩ hi ⟨k1, k2, k3, k4, k10, k11, k15, s4, s47⟩ K hK
        simp only at k1 k2 k3 k4 k10 k11 k15 s4 s47
        simp -dsimp -implicitDefEqProofs only [go_sem, Nat.reduceBEq, Nat.reduceAdd, Nat.reduceLeDiff, Nat.reduceSub, Int.reduceEq, k1, k2, k3, k4, k10, k11, k15, s4, s47]
        have hnl : ((List.range m).map (nulC (bs.getD 0 []) m)).length = m := by simp
        refine ifB'.of (fun hlt => ?_) (fun hlt => ?_)
        · have hlt : i < m := by omega
          have hni : ((List.range m).map (nulC (bs.getD 0 []) m))[i]'(by omega) = nulC (bs.getD 0 []) m i := by simp
          have hma : (ra clC (mkPre (cdS f m (bs.getD 0 []) (bs.getD 1 []) (bs.getD 2 []) vs) ((List.range m).map (nulC (bs.getD 0 []) m)) i))[i]? = some (clC (nulC (bs.getD 0 []) m i)) := ra_at' (by rw [mkPre_at _ (show i < ((List.range m).map (nulC (bs.getD 0 []) m)).length by omega), hni])
          have hml := mkPre_length (cdS f m (bs.getD 0 []) (bs.getD 1 []) (bs.getD 2 []) vs) (xs := (List.range m).map (nulC (bs.getD 0 []) m)) (i := i) (by omega)
          have hset : ∀ y, y = cdS f m (bs.getD 0 []) (bs.getD 1 []) (bs.getD 2 []) vs i → (ra clC (mkPre (cdS f m (bs.getD 0 []) (bs.getD 1 []) (bs.getD 2 []) vs) ((List.range m).map (nulC (bs.getD 0 []) m)) i)).set i (clC y) = ra clC (mkPre (cdS f m (bs.getD 0 []) (bs.getD 1 []) (bs.getD 2 []) vs) ((List.range m).map (nulC (bs.getD 0 []) m)) (i + 1)) := fun y hy => by
            rw [ra_set, mkPre_set _ _ (by omega) hy]
          have hkeep : nulC (bs.getD 0 []) m i = cdS f m (bs.getD 0 []) (bs.getD 1 []) (bs.getD 2 []) vs i → mkPre (cdS f m (bs.getD 0 []) (bs.getD 1 []) (bs.getD 2 []) vs) ((List.range m).map (nulC (bs.getD 0 []) m)) (i + 1) = mkPre (cdS f m (bs.getD 0 []) (bs.getD 1 []) (bs.getD 2 []) vs) ((List.range m).map (nulC (bs.getD 0 []) m)) i := fun h => mkPre_keep _ (by omega) (by rw [hni, h])
          have hi1 : IntKind.i64.wrap ((i : Int) + 1) = ((i + 1 : Nat) : Int) := wrap_succ (by omega)
          repeat (first | with_reducible refine ask.of (by first | omega | decide) ?_ | simp -dsimp -implicitDefEqProofs only [go_sem, Nat.reduceBEq, Nat.reduceAdd, Nat.reduceLeDiff, Nat.reduceSub, Int.reduceEq, k1, k2, k3, k4, k10, k11, k15, s4, s47, hma, clC, nulC, bl3, hml, hnl, ra_length])
          cases hz : nulS (bs.getD 0 []) m i
          rotate_left
          · have hc : nulC (bs.getD 0 []) m i = cdS f m (bs.getD 0 []) (bs.getD 1 []) (bs.getD 2 []) vs i := by rw [cdS, hz, if_pos rfl, nulC, hz]
            repeat (first | with_reducible refine ask.of (by first | omega | decide) ?_ | simp -dsimp -implicitDefEqProofs only [go_sem, Nat.reduceBEq, Nat.reduceAdd, Nat.reduceLeDiff, Nat.reduceSub, Int.reduceEq, k1, k2, k3, k4, k10, k11, k15, s4, s47, hz, bl3])
            refine hK _ hlt ?_
            simp -dsimp -implicitDefEqProofs only [go_sem, Nat.reduceBEq, Nat.reduceAdd, Nat.reduceLeDiff, Nat.reduceSub, Int.reduceEq, k1, k2, k3, k4, k10, k11, k15, s4, s47, hi1, hkeep hc]
          have hcd : cdS f m (bs.getD 0 []) (bs.getD 1 []) (bs.getD 2 []) vs i = if f.k = 0 then ⟨false, if bitB (bs.getD 1 []) i = true then 1 else 0, []⟩ else if f.k = 1 then ⟨false, (unpackIC (bs.getD 1 []) f.w).1.getD i 0, []⟩ else if f.k = 2 then ⟨false, 0, (splL (bs.getD 1 []) (bs.getD 2 []) m).1.getD i []⟩ else ⟨false, 0, if i < (bs.getD 1 []).length ∧ ((bs.getD 1 []).getD i 0).toNat < vs.length then vs.getD ((bs.getD 1 []).getD i 0).toNat [] else []⟩ := by
            rw [cdS, hz]; rfl
          have hnc : nulC (bs.getD 0 []) m i = ⟨false, 0, []⟩ := by rw [nulC, hz]
          have hma2 : (ra clC (mkPre (cdS f m (bs.getD 0 []) (bs.getD 1 []) (bs.getD 2 []) vs) ((List.range m).map (nulC (bs.getD 0 []) m)) i))[i]? = some [.v (.bool false), .v (.int .i64 0), .row 5 1 []] := by rw [hma, hnc]; rfl
          repeat (first | with_reducible refine ask.of (by first | omega | decide) ?_ | simp -dsimp -implicitDefEqProofs only [go_sem, Nat.reduceBEq, Nat.reduceAdd, Nat.reduceLeDiff, Nat.reduceSub, Int.reduceEq, k1, k2, k3, k4, k10, k11, k15, s4, s47, hz, bl3])
          refine ifB'.of (fun hk0 => ?_) (fun hk0 => ?_)
          · rw [if_pos hk0] at hcd
            have hdv := tdiv8 (show i < 4611686018427387904 by omega)
            repeat (first | with_reducible refine ask.of (by first | omega | decide) ?_ | simp -dsimp -implicitDefEqProofs only [go_sem, Nat.reduceBEq, Nat.reduceAdd, Nat.reduceLeDiff, Nat.reduceSub, Int.reduceEq, k1, k2, k3, k4, k10, k11, k15, s4, s47, bl3, it012, hdv, bs_at (show 1 < bs.length by omega)])
            refine ifB'.of (fun hd => ?_) (fun hd => ?_)
            · have hd : i / 8 < (bs.getD 1 []).length := by omega
              have e7 : i % 8 < 8 := by omega
              have hbn := bit_num hd
              repeat (first | with_reducible refine ask.of (by first | omega | decide) ?_ | simp -dsimp -implicitDefEqProofs only [go_sem, Nat.reduceBEq, Nat.reduceAdd, Nat.reduceLeDiff, Nat.reduceSub, Int.reduceEq, k1, k2, k3, k4, k10, k11, k15, s4, s47, bl3, it012, hdv, bs_at (show 1 < bs.length by omega), bytesA_at hd, tmod8', wrap_u64 (show i % 8 < 18446744073709551616 by omega), u8_shr ((bs.getD 1 [])[i / 8]'hd) (i % 8) e7, tmod2', hma2, hml, hnl, ra_length])
              refine hK _ hlt ?_
              simp -dsimp -implicitDefEqProofs only [go_sem, Nat.reduceBEq, Nat.reduceAdd, Nat.reduceLeDiff, Nat.reduceSub, Int.reduceEq, k1, k2, k3, k4, k10, k11, k15, s4, s47, hi1]
              refine congrArg (fun l => some (OB.row 145 3 l)) ?_
              rw [wrap_i64_of (by omega) (by omega)]
              exact hset ⟨false, (((bs.getD 1 [])[i / 8].toNat / 2 ^ (i % 8) % 2 : Nat) : Int), []⟩ (by rw [hcd, hbn])
            · have hc : nulC (bs.getD 0 []) m i = cdS f m (bs.getD 0 []) (bs.getD 1 []) (bs.getD 2 []) vs i := by rw [hcd, hnc, bitB_end (by omega)]; rfl
              repeat (first | with_reducible refine ask.of (by first | omega | decide) ?_ | simp -dsimp -implicitDefEqProofs only [go_sem, Nat.reduceBEq, Nat.reduceAdd, Nat.reduceLeDiff, Nat.reduceSub, Int.reduceEq, k1, k2, k3, k4, k10, k11, k15, s4, s47, bl3])
              refine hK _ hlt ?_
              simp -dsimp -implicitDefEqProofs only [go_sem, Nat.reduceBEq, Nat.reduceAdd, Nat.reduceLeDiff, Nat.reduceSub, Int.reduceEq, k1, k2, k3, k4, k10, k11, k15, s4, s47, hi1, hkeep hc]
          rw [if_neg hk0] at hcd
          repeat (first | with_reducible refine ask.of (by first | omega | decide) ?_ | simp -dsimp -implicitDefEqProofs only [go_sem, Nat.reduceBEq, Nat.reduceAdd, Nat.reduceLeDiff, Nat.reduceSub, Int.reduceEq, k1, k2, k3, k4, k10, k11, k15, s4, s47, bl3])
          refine ifB'.of (fun hk1 => ?_) (fun hk1 => ?_)
          · rw [if_pos hk1] at hcd
            repeat (first | with_reducible refine ask.of (by first | omega | decide) ?_ | simp -dsimp -implicitDefEqProofs only [go_sem, Nat.reduceBEq, Nat.reduceAdd, Nat.reduceLeDiff, Nat.reduceSub, Int.reduceEq, k1, k2, k3, k4, k10, k11, k15, s4, s47, bl3, it012, bs_at (show 1 < bs.length by omega)])
            refine CallE.of (c_specUnpackInts (bs.getD 1 []) f.w (bs_le hbb 1)) (by rintro r rfl; (repeat' first | exact trivial | exact pure_rowB _ | exact pure_rowO _ | exact pure_rowI _ | exact pure_rowBB _ | exact pure_rowPk _ _ | exact pure_rowSn _ _ | exact pure_rowFd _ _ | exact pure_rowBBB _ | exact pure_rowCl _ _ | exact pure_rowTb _ _ _ | refine And.intro ?_ ?_)) (by simp -dsimp -implicitDefEqProofs only [go_sem, Nat.reduceBEq, Nat.reduceAdd, Nat.reduceLeDiff, Nat.reduceSub, Int.reduceEq, k1, k2, k3, k4, k10, k11, k15, s4, s47]) ?_
            rintro r rfl
            simp -dsimp -implicitDefEqProofs only [go_sem, Nat.reduceBEq, Nat.reduceAdd, Nat.reduceLeDiff, Nat.reduceSub, Int.reduceEq, k1, k2, k3, k4, k10, k11, k15, s4, s47]
            have hul := unpackIC_len (bs.getD 1 []) f.w
            have hur := unpackI_rng (b := bs.getD 1 []) (w := f.w)
            have hb1l := bs_le hbb 1
            have hun : (unpackIC (bs.getD 1 []) f.w).2 ≠ 0 → (unpackIC (bs.getD 1 []) f.w).1 = [] := fun h => by
              unfold unpackIC at h ⊢
              split
              · rename_i h8
                rw [if_pos h8] at h
                split
                · rename_i h9; rw [if_pos h9] at h; exact absurd rfl h
                · rfl
              · rfl
            generalize unpackIC (bs.getD 1 []) f.w = u at hcd hul hur hun
            obtain ⟨us, uc⟩ := u
            simp only at hcd hul hur hun
            have hno : ¬ (uc = 0 ∧ i < us.length) → nulC (bs.getD 0 []) m i = cdS f m (bs.getD 0 []) (bs.getD 1 []) (bs.getD 2 []) vs i := fun h => by
              rw [hcd, hnc]
              have : us.getD i 0 = 0 := by
                by_cases h9 : uc = 0
                · have : us.length ≤ i := by omega
                  simp [List.getD, this]
                · rw [hun h9]; rfl
              rw [this]
            by_cases hyes : uc = 0 ∧ i < us.length
            · repeat' (first | with_reducible refine ask.of (by first | omega | decide) ?_ | ((with_reducible refine ifB'.of (fun h => ?_) (fun h => ?_)) <;> first | (exfalso; omega) | skip) | simp -dsimp -implicitDefEqProofs only [go_sem, Nat.reduceBEq, Nat.reduceAdd, Nat.reduceLeDiff, Nat.reduceSub, Int.reduceEq, k1, k2, k3, k4, k10, k11, k15, s4, s47, bl3, intA_getD hyes.2, hma2, hml, hnl, ra_length])
              all_goals
                refine hK _ hlt ?_
                simp -dsimp -implicitDefEqProofs only [go_sem, Nat.reduceBEq, Nat.reduceAdd, Nat.reduceLeDiff, Nat.reduceSub, Int.reduceEq, k1, k2, k3, k4, k10, k11, k15, s4, s47, hi1]
                exact congrArg (fun l => some (OB.row 145 3 l)) (hset ⟨false, us.getD i 0, []⟩ hcd.symm)
            · repeat' (first | with_reducible refine ask.of (by first | omega | decide) ?_ | ((with_reducible refine ifB'.of (fun h => ?_) (fun h => ?_)) <;> first | (exfalso; omega) | skip) | simp -dsimp -implicitDefEqProofs only [go_sem, Nat.reduceBEq, Nat.reduceAdd, Nat.reduceLeDiff, Nat.reduceSub, Int.reduceEq, k1, k2, k3, k4, k10, k11, k15, s4, s47, bl3])
              all_goals
                refine hK _ hlt ?_
                simp -dsimp -implicitDefEqProofs only [go_sem, Nat.reduceBEq, Nat.reduceAdd, Nat.reduceLeDiff, Nat.reduceSub, Int.reduceEq, k1, k2, k3, k4, k10, k11, k15, s4, s47, hi1, hkeep (hno hyes)]
          rw [if_neg hk1, if_neg hk2] at hcd
          repeat (first | with_reducible refine ask.of (by first | omega | decide) ?_ | simp -dsimp -implicitDefEqProofs only [go_sem, Nat.reduceBEq, Nat.reduceAdd, Nat.reduceLeDiff, Nat.reduceSub, Int.reduceEq, k1, k2, k3, k4, k10, k11, k15, s4, s47, bl3])
          refine ifB'.no (by omega) ?_
          have hno : ¬ (i < (bs.getD 1 []).length ∧ ((bs.getD 1 []).getD i 0).toNat < vs.length) → nulC (bs.getD 0 []) m i = cdS f m (bs.getD 0 []) (bs.getD 1 []) (bs.getD 2 []) vs i := fun h => by rw [hcd, hnc, if_neg h]
          by_cases hyes : i < (bs.getD 1 []).length ∧ ((bs.getD 1 []).getD i 0).toNat < vs.length
          · have hgl : (vs.getD ((bs.getD 1 []).getD i 0).toNat []).length ≤ 1048576 := bs_le hvb _
            repeat' (first | with_reducible refine ask.of (by first | omega | decide) ?_ | ((with_reducible refine ifB'.of (fun h => ?_) (fun h => ?_)) <;> first | (exfalso; omega) | skip) | simp -dsimp -implicitDefEqProofs only [go_sem, Nat.reduceBEq, Nat.reduceAdd, Nat.reduceLeDiff, Nat.reduceSub, Int.reduceEq, k1, k2, k3, k4, k10, k11, k15, s4, s47, bl3, it012, bs_at (show 1 < bs.length by omega), bytesA_getD hyes.1, i64_u8, bs_at hyes.2])
            all_goals
              refine CallE.of (c_l1copy (vs.getD ((bs.getD 1 []).getD i 0).toNat []) (by omega)) (by rintro r rfl; (repeat' first | exact trivial | exact pure_rowB _ | exact pure_rowO _ | exact pure_rowI _ | exact pure_rowBB _ | exact pure_rowPk _ _ | exact pure_rowSn _ _ | exact pure_rowFd _ _ | exact pure_rowBBB _ | exact pure_rowCl _ _ | exact pure_rowTb _ _ _ | refine And.intro ?_ ?_)) (by simp -dsimp -implicitDefEqProofs only [go_sem, Nat.reduceBEq, Nat.reduceAdd, Nat.reduceLeDiff, Nat.reduceSub, Int.reduceEq, k1, k2, k3, k4, k10, k11, k15, s4, s47]) ?_
              rintro r rfl
              simp -dsimp -implicitDefEqProofs only [go_sem, Nat.reduceBEq, Nat.reduceAdd, Nat.reduceLeDiff, Nat.reduceSub, Int.reduceEq, k1, k2, k3, k4, k10, k11, k15, s4, s47]
              repeat (first | with_reducible refine ask.of (by first | omega | decide) ?_ | simp -dsimp -implicitDefEqProofs only [go_sem, Nat.reduceBEq, Nat.reduceAdd, Nat.reduceLeDiff, Nat.reduceSub, Int.reduceEq, k1, k2, k3, k4, k10, k11, k15, s4, s47, bl3, hma2, hml, hnl, ra_length])
              refine hK _ hlt ?_
              simp -dsimp -implicitDefEqProofs only [go_sem, Nat.reduceBEq, Nat.reduceAdd, Nat.reduceLeDiff, Nat.reduceSub, Int.reduceEq, k1, k2, k3, k4, k10, k11, k15, s4, s47, hi1]
              exact congrArg (fun l => some (OB.row 145 3 l)) (hset ⟨false, 0, vs.getD ((bs.getD 1 []).getD i 0).toNat []⟩ (by rw [hcd, if_pos hyes]))
          · by_cases hy1 : i < (bs.getD 1 []).length
            · repeat' (first | with_reducible refine ask.of (by first | omega | decide) ?_ | ((with_reducible refine ifB'.of (fun h => ?_) (fun h => ?_)) <;> first | (exfalso; omega) | skip) | simp -dsimp -implicitDefEqProofs only [go_sem, Nat.reduceBEq, Nat.reduceAdd, Nat.reduceLeDiff, Nat.reduceSub, Int.reduceEq, k1, k2, k3, k4, k10, k11, k15, s4, s47, bl3, it012, bs_at (show 1 < bs.length by omega), bytesA_getD hy1, i64_u8])
              all_goals
                refine hK _ hlt ?_
                simp -dsimp -implicitDefEqProofs only [go_sem, Nat.reduceBEq, Nat.reduceAdd, Nat.reduceLeDiff, Nat.reduceSub, Int.reduceEq, k1, k2, k3, k4, k10, k11, k15, s4, s47, hi1, hkeep (hno hyes)]
            · repeat' (first | with_reducible refine ask.of (by first | omega | decide) ?_ | ((with_reducible refine ifB'.of (fun h => ?_) (fun h => ?_)) <;> first | (exfalso; omega) | skip) | simp -dsimp -implicitDefEqProofs only [go_sem, Nat.reduceBEq, Nat.reduceAdd, Nat.reduceLeDiff, Nat.reduceSub, Int.reduceEq, k1, k2, k3, k4, k10, k11, k15, s4, s47, bl3, it012, bs_at (show 1 < bs.length by omega)])
              all_goals
                refine hK _ hlt ?_
                simp -dsimp -implicitDefEqProofs only [go_sem, Nat.reduceBEq, Nat.reduceAdd, Nat.reduceLeDiff, Nat.reduceSub, Int.reduceEq, k1, k2, k3, k4, k10, k11, k15, s4, s47, hi1, hkeep (hno hyes)]
        · have hie : i = m := by omega
          subst hie
          have hfull : mkPre (cdS f i (bs.getD 0 []) (bs.getD 1 []) (bs.getD 2 []) vs) ((List.range i).map (nulC (bs.getD 0 []) i)) i = rdS f i (bs.getD 0 []) (bs.getD 1 []) (bs.getD 2 []) vs := by
            have := mkPre_full (cdS f i (bs.getD 0 []) (bs.getD 1 []) (bs.getD 2 []) vs) ((List.range i).map (nulC (bs.getD 0 []) i))
            rw [hnl] at this
            exact this
          rw [hfull] at s47
          clear hK
          generalize rdS f i (bs.getD 0 []) (bs.getD 1 []) (bs.getD 2 []) vs = cs1 at *
          simp -dsimp -implicitDefEqProofs only [go_sem, Nat.reduceBEq, Nat.reduceAdd, Nat.reduceLeDiff, Nat.reduceSub, Int.reduceEq, k1, k2, k3, k4, k10, k11, k15, s4, s47]
          repeat (first | with_reducible refine ask.of (by first | omega | decide) ?_ | simp -dsimp -implicitDefEqProofs only [go_sem, Nat.reduceBEq, Nat.reduceAdd, Nat.reduceLeDiff, Nat.reduceSub, Int.reduceEq, k1, k2, k3, k4, k10, k11, k15, s4, s47, initE, bl3])
          refine CallE.of (c_specBuildColumn f cs1 vs hf (by omega) (by omega)) (by rintro r rfl; (repeat' first | exact trivial | exact pure_rowB _ | exact pure_rowO _ | exact pure_rowI _ | exact pure_rowBB _ | exact pure_rowPk _ _ | exact pure_rowSn _ _ | exact pure_rowFd _ _ | exact pure_rowBBB _ | exact pure_rowCl _ _ | exact pure_rowTb _ _ _ | refine And.intro ?_ ?_)) (by simp -dsimp -implicitDefEqProofs only [go_sem, Nat.reduceBEq, Nat.reduceAdd, Nat.reduceLeDiff, Nat.reduceSub, Int.reduceEq, k1, k2, k3, k4, k10, k11, k15, s4, s47, fdC, rowCl]) ?_
          rintro r rfl
          simp -dsimp -implicitDefEqProofs only [go_sem, Nat.reduceBEq, Nat.reduceAdd, Nat.reduceLeDiff, Nat.reduceSub, Int.reduceEq, k1, k2, k3, k4, k10, k11, k15, s4, s47, fdC, rowCl]
          unfold resB
          have hY : ∀ y, bldL f cs1 vs = y → y.2 = 0 ∧ y.1 = bs → rdOf f i bs vs cs1 := fun y hy h => ⟨by omega, hR1, by rw [hy, ← h.1, ← h.2]⟩
          have hN : ∀ y, bldL f cs1 vs = y → ¬ (y.2 = 0 ∧ y.1 = bs) → ∀ cs, ¬ rdOf f i bs vs cs := fun y hy h cs hc => by
            have e := hRb cs hc
            have h9 := hc.2.2
            rw [← e, hy] at h9
            exact h ⟨by rw [h9], by rw [h9]⟩
          have hT := bldL_Q (f := f) (cs := cs1) (vs := vs) (by omega)
          have hW : ∀ y, bldL f cs1 vs = y → y.2 = 0 → y.1.length = wantN f := fun y hy h => by
            have h9 : bldL f cs1 vs = (y.1, 0) := by rw [hy, ← h]
            obtain ⟨g1, g2⟩ := bld_inv h9
            have := (body_w g1).2.2.2
            rw [g2, List.length_cons, this]
          generalize bldL f cs1 vs = y at *
          replace hY := hY y rfl
          replace hN := hN y rfl
          replace hW := hW y rfl
          obtain ⟨yb, yc⟩ := y
          simp only at hY hN hT hW
          repeat (first | with_reducible refine ask.of (by first | omega | decide) ?_ | simp -dsimp -implicitDefEqProofs only [go_sem, Nat.reduceBEq, Nat.reduceAdd, Nat.reduceLeDiff, Nat.reduceSub, Int.reduceEq, k1, k2, k3, k4, k10, k11, k15, s4, s47, initE, bl3])
          refine ifB'.of (fun hc => ?_) (fun hc => ?_)
          rotate_left
          · repeat' (first | exact rc_no hg (hN fun h => hc h.1) | with_reducible refine ask.of (by first | omega | decide) ?_ | simp -dsimp -implicitDefEqProofs only [go_sem, Nat.reduceBEq, Nat.reduceAdd, Nat.reduceLeDiff, Nat.reduceSub, Int.reduceEq, k1, k2, k3, k4, k10, k11, k15, s4, s47, initE, bl3])
          replace hW := hW hc
          repeat (first | with_reducible refine ask.of (by first | omega | decide) ?_ | simp -dsimp -implicitDefEqProofs only [go_sem, Nat.reduceBEq, Nat.reduceAdd, Nat.reduceLeDiff, Nat.reduceSub, Int.reduceEq, k1, k2, k3, k4, k10, k11, k15, s4, s47, initE, bl3])
          refine LoopE.cnt 2 (fun j s => s.env 2 = .rd .ent 22 1 (ra byC bs) ∧ s.env 10 = .v (.int .i64 2) ∧ s.env 11 = .ref [47] ∧ s.env 20 = .ref [201, 0] ∧ s.env 22 = .v (.int .i64 j) ∧ s.σ [47] = some (.row 145 3 (ra clC cs1)) ∧ s.σ [201, 0] = some (.row 22 1 (ra byC yb)) ∧ yb.take j = bs.take j) ⟨by simp -dsimp -implicitDefEqProofs only [go_sem, Nat.reduceBEq, Nat.reduceAdd, Nat.reduceLeDiff, Nat.reduceSub, Int.reduceEq, k1, k2, k3, k4, k10, k11, k15, s4, s47], by simp -dsimp -implicitDefEqProofs only [go_sem, Nat.reduceBEq, Nat.reduceAdd, Nat.reduceLeDiff, Nat.reduceSub, Int.reduceEq, k1, k2, k3, k4, k10, k11, k15, s4, s47], by simp -dsimp -implicitDefEqProofs only [go_sem, Nat.reduceBEq, Nat.reduceAdd, Nat.reduceLeDiff, Nat.reduceSub, Int.reduceEq, k1, k2, k3, k4, k10, k11, k15, s4, s47], by simp -dsimp -implicitDefEqProofs only [go_sem, Nat.reduceBEq, Nat.reduceAdd, Nat.reduceLeDiff, Nat.reduceSub, Int.reduceEq, k1, k2, k3, k4, k10, k11, k15, s4, s47], by simp -dsimp -implicitDefEqProofs only [go_sem, Nat.reduceBEq, Nat.reduceAdd, Nat.reduceLeDiff, Nat.reduceSub, Int.reduceEq, k1, k2, k3, k4, k10, k11, k15, s4, s47] <;> rfl, by simp -dsimp -implicitDefEqProofs only [go_sem, Nat.reduceBEq, Nat.reduceAdd, Nat.reduceLeDiff, Nat.reduceSub, Int.reduceEq, k1, k2, k3, k4, k10, k11, k15, s4, s47], by simp -dsimp -implicitDefEqProofs only [go_sem, Nat.reduceBEq, Nat.reduceAdd, Nat.reduceLeDiff, Nat.reduceSub, Int.reduceEq, k1, k2, k3, k4, k10, k11, k15, s4, s47], by simp⟩ ?_
          clear k1 k2 k3 k4 k10 k11 k15 s4 s47
          rintro j ⟨e, σ⟩ hj ⟨k2, k10, k11, k20, k22, s47, s201, hall⟩ K hK
          simp only at k2 k10 k11 k20 k22 s47 s201
          simp -dsimp -implicitDefEqProofs only [go_sem, Nat.reduceBEq, Nat.reduceAdd, Nat.reduceLeDiff, Nat.reduceSub, Int.reduceEq, k2, k10, k11, k20, k22, s47, s201]
          refine ifB'.of (fun hlt => ?_) (fun hlt => ?_)
          · have hlt : j < 2 := by omega
            have hj1 : j < yb.length := by omega
            have hj2 : j < bs.length := by omega
            repeat (first | with_reducible refine ask.of (by first | omega | decide) ?_ | simp -dsimp -implicitDefEqProofs only [go_sem, Nat.reduceBEq, Nat.reduceAdd, Nat.reduceLeDiff, Nat.reduceSub, Int.reduceEq, k2, k10, k11, k20, k22, s47, s201, byA_at hj1, byA_at hj2, bl3])
            refine CallE.of (c_l1same yb[j] bs[j] (by have := hT.2 _ (List.getElem_mem hj1); omega) (by have := hbb _ (List.getElem_mem hj2); omega)) (by rintro r rfl; trivial) (by simp -dsimp -implicitDefEqProofs only [go_sem, Nat.reduceBEq, Nat.reduceAdd, Nat.reduceLeDiff, Nat.reduceSub, Int.reduceEq, k2, k10, k11, k20, k22, s47, s201]) ?_
            rintro r rfl
            simp -dsimp -implicitDefEqProofs only [go_sem, Nat.reduceBEq, Nat.reduceAdd, Nat.reduceLeDiff, Nat.reduceSub, Int.reduceEq, k2, k10, k11, k20, k22, s47, s201]
            by_cases hq : yb[j] = bs[j]
            · simp -dsimp -implicitDefEqProofs only [go_sem, Nat.reduceBEq, Nat.reduceAdd, Nat.reduceLeDiff, Nat.reduceSub, Int.reduceEq, k2, k10, k11, k20, k22, s47, s201, decide_eq_true hq, Bool.not_true]
              refine hK _ hlt ?_
              simp -dsimp -implicitDefEqProofs only [go_sem, Nat.reduceBEq, Nat.reduceAdd, Nat.reduceLeDiff, Nat.reduceSub, Int.reduceEq, k2, k10, k11, k20, k22, s47, s201, wrap_succ (show j < 4611686018427387904 by omega)]
              exact bb_take hall hj1 hj2 hq
            · simp -dsimp -implicitDefEqProofs only [go_sem, Nat.reduceBEq, Nat.reduceAdd, Nat.reduceLeDiff, Nat.reduceSub, Int.reduceEq, k2, k10, k11, k20, k22, s47, s201, decide_eq_false hq, Bool.not_false]
              exact rc_no hg (hN fun h => bb_ne hj1 hj2 hq h.2)
          · have hje : j = 2 := by omega
            subst hje
            have e1 : yb.take 2 = yb := List.take_of_length_le (by omega)
            have e2 : bs.take 2 = bs := List.take_of_length_le (by omega)
            rw [e1, e2] at hall
            simp -dsimp -implicitDefEqProofs only [go_sem, Nat.reduceBEq, Nat.reduceAdd, Nat.reduceLeDiff, Nat.reduceSub, Int.reduceEq, k2, k10, k11, k20, k22, s47, s201]
            exact rc_yes hg hbb (hY ⟨hc, hall⟩)
    · have hz0 := nulC_map (bs.getD 0 []) m (by omega)
      repeat (first | with_reducible refine ask.of (by first | omega | decide) ?_ | simp -dsimp -implicitDefEqProofs only [go_sem, Nat.reduceBEq, Nat.reduceAdd, Nat.reduceLeDiff, Nat.reduceSub, Int.reduceEq, initE, bl3])
      refine LoopE.cnt m (fun i s => s.env 1 = .v (.int .i64 m) ∧ s.env 2 = .rd .ent 22 1 (ra byC bs) ∧ s.env 3 = .rd .ent 22 1 (ra byC vs) ∧ s.env 4 = .ptr [4] 0 0 0 ∧ s.env 10 = .v (.int .i64 2) ∧ s.env 11 = .ref [47] ∧ s.env 15 = .v (.int .i64 i) ∧
        s.σ [4] = some (.box 84 [.rd .ent 5 1 (bytesA f.f), .v (.int .i64 f.k), .v (.int .i64 f.w)]) ∧ s.σ [47] = some (.row 145 3 (ra clC (mkPre (cdS f m (bs.getD 0 []) (bs.getD 1 []) (bs.getD 2 []) vs) ((List.range m).map (nulC (bs.getD 0 []) m)) i)))) ⟨by simp -dsimp -implicitDefEqProofs only [go_sem, Nat.reduceBEq, Nat.reduceAdd, Nat.reduceLeDiff, Nat.reduceSub, Int.reduceEq, initE], by simp -dsimp -implicitDefEqProofs only [go_sem, Nat.reduceBEq, Nat.reduceAdd, Nat.reduceLeDiff, Nat.reduceSub, Int.reduceEq, initE], by simp -dsimp -implicitDefEqProofs only [go_sem, Nat.reduceBEq, Nat.reduceAdd, Nat.reduceLeDiff, Nat.reduceSub, Int.reduceEq, initE], by simp -dsimp -implicitDefEqProofs only [go_sem, Nat.reduceBEq, Nat.reduceAdd, Nat.reduceLeDiff, Nat.reduceSub, Int.reduceEq], by simp -dsimp -implicitDefEqProofs only [go_sem, Nat.reduceBEq, Nat.reduceAdd, Nat.reduceLeDiff, Nat.reduceSub, Int.reduceEq], by simp -dsimp -implicitDefEqProofs only [go_sem, Nat.reduceBEq, Nat.reduceAdd, Nat.reduceLeDiff, Nat.reduceSub, Int.reduceEq], by simp -dsimp -implicitDefEqProofs only [go_sem, Nat.reduceBEq, Nat.reduceAdd, Nat.reduceLeDiff, Nat.reduceSub, Int.reduceEq] <;> rfl, by simp -dsimp -implicitDefEqProofs only [go_sem, Nat.reduceBEq, Nat.reduceAdd, Nat.reduceLeDiff, Nat.reduceSub, Int.reduceEq, initE], by simp -dsimp -implicitDefEqProofs only [go_sem, Nat.reduceBEq, Nat.reduceAdd, Nat.reduceLeDiff, Nat.reduceSub, Int.reduceEq, mkPre_zero, hz0] <;> exact congrArg (fun l => some (OB.row 145 3 l)) (Cl_zeros m)⟩ ?_
      rintro i ⟨e, σ⟩ hi ⟨k1, k2, k3, k4, k10, k11, k15, s4, s47⟩ K hK
      simp only at k1 k2 k3 k4 k10 k11 k15 s4 s47
      simp -dsimp -implicitDefEqProofs only [go_sem, Nat.reduceBEq, Nat.reduceAdd, Nat.reduceLeDiff, Nat.reduceSub, Int.reduceEq, k1, k2, k3, k4, k10, k11, k15, s4, s47]
      have hnl : ((List.range m).map (nulC (bs.getD 0 []) m)).length = m := by simp
      refine ifB'.of (fun hlt => ?_) (fun hlt => ?_)
      · have hlt : i < m := by omega
        have hni : ((List.range m).map (nulC (bs.getD 0 []) m))[i]'(by omega) = nulC (bs.getD 0 []) m i := by simp
        have hma : (ra clC (mkPre (cdS f m (bs.getD 0 []) (bs.getD 1 []) (bs.getD 2 []) vs) ((List.range m).map (nulC (bs.getD 0 []) m)) i))[i]? = some (clC (nulC (bs.getD 0 []) m i)) := ra_at' (by rw [mkPre_at _ (show i < ((List.range m).map (nulC (bs.getD 0 []) m)).length by omega), hni])
        have hml := mkPre_length (cdS f m (bs.getD 0 []) (bs.getD 1 []) (bs.getD 2 []) vs) (xs := (List.range m).map (nulC (bs.getD 0 []) m)) (i := i) (by omega)
        have hset : ∀ y, y = cdS f m (bs.getD 0 []) (bs.getD 1 []) (bs.getD 2 []) vs i → (ra clC (mkPre (cdS f m (bs.getD 0 []) (bs.getD 1 []) (bs.getD 2 []) vs) ((List.range m).map (nulC (bs.getD 0 []) m)) i)).set i (clC y) = ra clC (mkPre (cdS f m (bs.getD 0 []) (bs.getD 1 []) (bs.getD 2 []) vs) ((List.range m).map (nulC (bs.getD 0 []) m)) (i + 1)) := fun y hy => by
          rw [ra_set, mkPre_set _ _ (by omega) hy]
        have hkeep : nulC (bs.getD 0 []) m i = cdS f m (bs.getD 0 []) (bs.getD 1 []) (bs.getD 2 []) vs i → mkPre (cdS f m (bs.getD 0 []) (bs.getD 1 []) (bs.getD 2 []) vs) ((List.range m).map (nulC (bs.getD 0 []) m)) (i + 1) = mkPre (cdS f m (bs.getD 0 []) (bs.getD 1 []) (bs.getD 2 []) vs) ((List.range m).map (nulC (bs.getD 0 []) m)) i := fun h => mkPre_keep _ (by omega) (by rw [hni, h])
        have hi1 : IntKind.i64.wrap ((i : Int) + 1) = ((i + 1 : Nat) : Int) := wrap_succ (by omega)
        repeat (first | with_reducible refine ask.of (by first | omega | decide) ?_ | simp -dsimp -implicitDefEqProofs only [go_sem, Nat.reduceBEq, Nat.reduceAdd, Nat.reduceLeDiff, Nat.reduceSub, Int.reduceEq, k1, k2, k3, k4, k10, k11, k15, s4, s47, hma, clC, nulC, bl3, hml, hnl, ra_length])
        cases hz : nulS (bs.getD 0 []) m i
        rotate_left
        · have hc : nulC (bs.getD 0 []) m i = cdS f m (bs.getD 0 []) (bs.getD 1 []) (bs.getD 2 []) vs i := by rw [cdS, hz, if_pos rfl, nulC, hz]
          repeat (first | with_reducible refine ask.of (by first | omega | decide) ?_ | simp -dsimp -implicitDefEqProofs only [go_sem, Nat.reduceBEq, Nat.reduceAdd, Nat.reduceLeDiff, Nat.reduceSub, Int.reduceEq, k1, k2, k3, k4, k10, k11, k15, s4, s47, hz, bl3])
          refine hK _ hlt ?_
          simp -dsimp -implicitDefEqProofs only [go_sem, Nat.reduceBEq, Nat.reduceAdd, Nat.reduceLeDiff, Nat.reduceSub, Int.reduceEq, k1, k2, k3, k4, k10, k11, k15, s4, s47, hi1, hkeep hc]
        have hcd : cdS f m (bs.getD 0 []) (bs.getD 1 []) (bs.getD 2 []) vs i = if f.k = 0 then ⟨false, if bitB (bs.getD 1 []) i = true then 1 else 0, []⟩ else if f.k = 1 then ⟨false, (unpackIC (bs.getD 1 []) f.w).1.getD i 0, []⟩ else if f.k = 2 then ⟨false, 0, (splL (bs.getD 1 []) (bs.getD 2 []) m).1.getD i []⟩ else ⟨false, 0, if i < (bs.getD 1 []).length ∧ ((bs.getD 1 []).getD i 0).toNat < vs.length then vs.getD ((bs.getD 1 []).getD i 0).toNat [] else []⟩ := by
          rw [cdS, hz]; rfl
        have hnc : nulC (bs.getD 0 []) m i = ⟨false, 0, []⟩ := by rw [nulC, hz]
        have hma2 : (ra clC (mkPre (cdS f m (bs.getD 0 []) (bs.getD 1 []) (bs.getD 2 []) vs) ((List.range m).map (nulC (bs.getD 0 []) m)) i))[i]? = some [.v (.bool false), .v (.int .i64 0), .row 5 1 []] := by rw [hma, hnc]; rfl
        repeat (first | with_reducible refine ask.of (by first | omega | decide) ?_ | simp -dsimp -implicitDefEqProofs only [go_sem, Nat.reduceBEq, Nat.reduceAdd, Nat.reduceLeDiff, Nat.reduceSub, Int.reduceEq, k1, k2, k3, k4, k10, k11, k15, s4, s47, hz, bl3])
        refine ifB'.of (fun hk0 => ?_) (fun hk0 => ?_)
        · rw [if_pos hk0] at hcd
          have hdv := tdiv8 (show i < 4611686018427387904 by omega)
          repeat (first | with_reducible refine ask.of (by first | omega | decide) ?_ | simp -dsimp -implicitDefEqProofs only [go_sem, Nat.reduceBEq, Nat.reduceAdd, Nat.reduceLeDiff, Nat.reduceSub, Int.reduceEq, k1, k2, k3, k4, k10, k11, k15, s4, s47, bl3, it012, hdv, bs_at (show 1 < bs.length by omega)])
          refine ifB'.of (fun hd => ?_) (fun hd => ?_)
          · have hd : i / 8 < (bs.getD 1 []).length := by omega
            have e7 : i % 8 < 8 := by omega
            have hbn := bit_num hd
            repeat (first | with_reducible refine ask.of (by first | omega | decide) ?_ | simp -dsimp -implicitDefEqProofs only [go_sem, Nat.reduceBEq, Nat.reduceAdd, Nat.reduceLeDiff, Nat.reduceSub, Int.reduceEq, k1, k2, k3, k4, k10, k11, k15, s4, s47, bl3, it012, hdv, bs_at (show 1 < bs.length by omega), bytesA_at hd, tmod8', wrap_u64 (show i % 8 < 18446744073709551616 by omega), u8_shr ((bs.getD 1 [])[i / 8]'hd) (i % 8) e7, tmod2', hma2, hml, hnl, ra_length])
            refine hK _ hlt ?_
            simp -dsimp -implicitDefEqProofs only [go_sem, Nat.reduceBEq, Nat.reduceAdd, Nat.reduceLeDiff, Nat.reduceSub, Int.reduceEq, k1, k2, k3, k4, k10, k11, k15, s4, s47, hi1]
            refine congrArg (fun l => some (OB.row 145 3 l)) ?_
            rw [wrap_i64_of (by omega) (by omega)]
            exact hset ⟨false, (((bs.getD 1 [])[i / 8].toNat / 2 ^ (i % 8) % 2 : Nat) : Int), []⟩ (by rw [hcd, hbn])
          · have hc : nulC (bs.getD 0 []) m i = cdS f m (bs.getD 0 []) (bs.getD 1 []) (bs.getD 2 []) vs i := by rw [hcd, hnc, bitB_end (by omega)]; rfl
            repeat (first | with_reducible refine ask.of (by first | omega | decide) ?_ | simp -dsimp -implicitDefEqProofs only [go_sem, Nat.reduceBEq, Nat.reduceAdd, Nat.reduceLeDiff, Nat.reduceSub, Int.reduceEq, k1, k2, k3, k4, k10, k11, k15, s4, s47, bl3])
            refine hK _ hlt ?_
            simp -dsimp -implicitDefEqProofs only [go_sem, Nat.reduceBEq, Nat.reduceAdd, Nat.reduceLeDiff, Nat.reduceSub, Int.reduceEq, k1, k2, k3, k4, k10, k11, k15, s4, s47, hi1, hkeep hc]
        rw [if_neg hk0] at hcd
        repeat (first | with_reducible refine ask.of (by first | omega | decide) ?_ | simp -dsimp -implicitDefEqProofs only [go_sem, Nat.reduceBEq, Nat.reduceAdd, Nat.reduceLeDiff, Nat.reduceSub, Int.reduceEq, k1, k2, k3, k4, k10, k11, k15, s4, s47, bl3])
        refine ifB'.of (fun hk1 => ?_) (fun hk1 => ?_)
        · rw [if_pos hk1] at hcd
          repeat (first | with_reducible refine ask.of (by first | omega | decide) ?_ | simp -dsimp -implicitDefEqProofs only [go_sem, Nat.reduceBEq, Nat.reduceAdd, Nat.reduceLeDiff, Nat.reduceSub, Int.reduceEq, k1, k2, k3, k4, k10, k11, k15, s4, s47, bl3, it012, bs_at (show 1 < bs.length by omega)])
          refine CallE.of (c_specUnpackInts (bs.getD 1 []) f.w (bs_le hbb 1)) (by rintro r rfl; (repeat' first | exact trivial | exact pure_rowB _ | exact pure_rowO _ | exact pure_rowI _ | exact pure_rowBB _ | exact pure_rowPk _ _ | exact pure_rowSn _ _ | exact pure_rowFd _ _ | exact pure_rowBBB _ | exact pure_rowCl _ _ | exact pure_rowTb _ _ _ | refine And.intro ?_ ?_)) (by simp -dsimp -implicitDefEqProofs only [go_sem, Nat.reduceBEq, Nat.reduceAdd, Nat.reduceLeDiff, Nat.reduceSub, Int.reduceEq, k1, k2, k3, k4, k10, k11, k15, s4, s47]) ?_
          rintro r rfl
          simp -dsimp -implicitDefEqProofs only [go_sem, Nat.reduceBEq, Nat.reduceAdd, Nat.reduceLeDiff, Nat.reduceSub, Int.reduceEq, k1, k2, k3, k4, k10, k11, k15, s4, s47]
          have hul := unpackIC_len (bs.getD 1 []) f.w
          have hur := unpackI_rng (b := bs.getD 1 []) (w := f.w)
          have hb1l := bs_le hbb 1
          have hun : (unpackIC (bs.getD 1 []) f.w).2 ≠ 0 → (unpackIC (bs.getD 1 []) f.w).1 = [] := fun h => by
            unfold unpackIC at h ⊢
            split
            · rename_i h8
              rw [if_pos h8] at h
              split
              · rename_i h9; rw [if_pos h9] at h; exact absurd rfl h
              · rfl
            · rfl
          generalize unpackIC (bs.getD 1 []) f.w = u at hcd hul hur hun
          obtain ⟨us, uc⟩ := u
          simp only at hcd hul hur hun
          have hno : ¬ (uc = 0 ∧ i < us.length) → nulC (bs.getD 0 []) m i = cdS f m (bs.getD 0 []) (bs.getD 1 []) (bs.getD 2 []) vs i := fun h => by
            rw [hcd, hnc]
            have : us.getD i 0 = 0 := by
              by_cases h9 : uc = 0
              · have : us.length ≤ i := by omega
                simp [List.getD, this]
              · rw [hun h9]; rfl
            rw [this]
          by_cases hyes : uc = 0 ∧ i < us.length
          · repeat' (first | with_reducible refine ask.of (by first | omega | decide) ?_ | ((with_reducible refine ifB'.of (fun h => ?_) (fun h => ?_)) <;> first | (exfalso; omega) | skip) | simp -dsimp -implicitDefEqProofs only [go_sem, Nat.reduceBEq, Nat.reduceAdd, Nat.reduceLeDiff, Nat.reduceSub, Int.reduceEq, k1, k2, k3, k4, k10, k11, k15, s4, s47, bl3, intA_getD hyes.2, hma2, hml, hnl, ra_length])
            all_goals
              refine hK _ hlt ?_
              simp -dsimp -implicitDefEqProofs only [go_sem, Nat.reduceBEq, Nat.reduceAdd, Nat.reduceLeDiff, Nat.reduceSub, Int.reduceEq, k1, k2, k3, k4, k10, k11, k15, s4, s47, hi1]
              exact congrArg (fun l => some (OB.row 145 3 l)) (hset ⟨false, us.getD i 0, []⟩ hcd.symm)
          · repeat' (first | with_reducible refine ask.of (by first | omega | decide) ?_ | ((with_reducible refine ifB'.of (fun h => ?_) (fun h => ?_)) <;> first | (exfalso; omega) | skip) | simp -dsimp -implicitDefEqProofs only [go_sem, Nat.reduceBEq, Nat.reduceAdd, Nat.reduceLeDiff, Nat.reduceSub, Int.reduceEq, k1, k2, k3, k4, k10, k11, k15, s4, s47, bl3])
            all_goals
              refine hK _ hlt ?_
              simp -dsimp -implicitDefEqProofs only [go_sem, Nat.reduceBEq, Nat.reduceAdd, Nat.reduceLeDiff, Nat.reduceSub, Int.reduceEq, k1, k2, k3, k4, k10, k11, k15, s4, s47, hi1, hkeep (hno hyes)]
        rw [if_neg hk1, if_neg hk2] at hcd
        repeat (first | with_reducible refine ask.of (by first | omega | decide) ?_ | simp -dsimp -implicitDefEqProofs only [go_sem, Nat.reduceBEq, Nat.reduceAdd, Nat.reduceLeDiff, Nat.reduceSub, Int.reduceEq, k1, k2, k3, k4, k10, k11, k15, s4, s47, bl3])
        refine ifB'.no (by omega) ?_
        have hno : ¬ (i < (bs.getD 1 []).length ∧ ((bs.getD 1 []).getD i 0).toNat < vs.length) → nulC (bs.getD 0 []) m i = cdS f m (bs.getD 0 []) (bs.getD 1 []) (bs.getD 2 []) vs i := fun h => by rw [hcd, hnc, if_neg h]
        by_cases hyes : i < (bs.getD 1 []).length ∧ ((bs.getD 1 []).getD i 0).toNat < vs.length
        · have hgl : (vs.getD ((bs.getD 1 []).getD i 0).toNat []).length ≤ 1048576 := bs_le hvb _
          repeat' (first | with_reducible refine ask.of (by first | omega | decide) ?_ | ((with_reducible refine ifB'.of (fun h => ?_) (fun h => ?_)) <;> first | (exfalso; omega) | skip) | simp -dsimp -implicitDefEqProofs only [go_sem, Nat.reduceBEq, Nat.reduceAdd, Nat.reduceLeDiff, Nat.reduceSub, Int.reduceEq, k1, k2, k3, k4, k10, k11, k15, s4, s47, bl3, it012, bs_at (show 1 < bs.length by omega), bytesA_getD hyes.1, i64_u8, bs_at hyes.2])
          all_goals
            refine CallE.of (c_l1copy (vs.getD ((bs.getD 1 []).getD i 0).toNat []) (by omega)) (by rintro r rfl; (repeat' first | exact trivial | exact pure_rowB _ | exact pure_rowO _ | exact pure_rowI _ | exact pure_rowBB _ | exact pure_rowPk _ _ | exact pure_rowSn _ _ | exact pure_rowFd _ _ | exact pure_rowBBB _ | exact pure_rowCl _ _ | exact pure_rowTb _ _ _ | refine And.intro ?_ ?_)) (by simp -dsimp -implicitDefEqProofs only [go_sem, Nat.reduceBEq, Nat.reduceAdd, Nat.reduceLeDiff, Nat.reduceSub, Int.reduceEq, k1, k2, k3, k4, k10, k11, k15, s4, s47]) ?_
            rintro r rfl
            simp -dsimp -implicitDefEqProofs only [go_sem, Nat.reduceBEq, Nat.reduceAdd, Nat.reduceLeDiff, Nat.reduceSub, Int.reduceEq, k1, k2, k3, k4, k10, k11, k15, s4, s47]
            repeat (first | with_reducible refine ask.of (by first | omega | decide) ?_ | simp -dsimp -implicitDefEqProofs only [go_sem, Nat.reduceBEq, Nat.reduceAdd, Nat.reduceLeDiff, Nat.reduceSub, Int.reduceEq, k1, k2, k3, k4, k10, k11, k15, s4, s47, bl3, hma2, hml, hnl, ra_length])
            refine hK _ hlt ?_
            simp -dsimp -implicitDefEqProofs only [go_sem, Nat.reduceBEq, Nat.reduceAdd, Nat.reduceLeDiff, Nat.reduceSub, Int.reduceEq, k1, k2, k3, k4, k10, k11, k15, s4, s47, hi1]
            exact congrArg (fun l => some (OB.row 145 3 l)) (hset ⟨false, 0, vs.getD ((bs.getD 1 []).getD i 0).toNat []⟩ (by rw [hcd, if_pos hyes]))
        · by_cases hy1 : i < (bs.getD 1 []).length
          · repeat' (first | with_reducible refine ask.of (by first | omega | decide) ?_ | ((with_reducible refine ifB'.of (fun h => ?_) (fun h => ?_)) <;> first | (exfalso; omega) | skip) | simp -dsimp -implicitDefEqProofs only [go_sem, Nat.reduceBEq, Nat.reduceAdd, Nat.reduceLeDiff, Nat.reduceSub, Int.reduceEq, k1, k2, k3, k4, k10, k11, k15, s4, s47, bl3, it012, bs_at (show 1 < bs.length by omega), bytesA_getD hy1, i64_u8])
            all_goals
              refine hK _ hlt ?_
              simp -dsimp -implicitDefEqProofs only [go_sem, Nat.reduceBEq, Nat.reduceAdd, Nat.reduceLeDiff, Nat.reduceSub, Int.reduceEq, k1, k2, k3, k4, k10, k11, k15, s4, s47, hi1, hkeep (hno hyes)]
          · repeat' (first | with_reducible refine ask.of (by first | omega | decide) ?_ | ((with_reducible refine ifB'.of (fun h => ?_) (fun h => ?_)) <;> first | (exfalso; omega) | skip) | simp -dsimp -implicitDefEqProofs only [go_sem, Nat.reduceBEq, Nat.reduceAdd, Nat.reduceLeDiff, Nat.reduceSub, Int.reduceEq, k1, k2, k3, k4, k10, k11, k15, s4, s47, bl3, it012, bs_at (show 1 < bs.length by omega)])
            all_goals
              refine hK _ hlt ?_
              simp -dsimp -implicitDefEqProofs only [go_sem, Nat.reduceBEq, Nat.reduceAdd, Nat.reduceLeDiff, Nat.reduceSub, Int.reduceEq, k1, k2, k3, k4, k10, k11, k15, s4, s47, hi1, hkeep (hno hyes)]
      · have hie : i = m := by omega
        subst hie
        have hfull : mkPre (cdS f i (bs.getD 0 []) (bs.getD 1 []) (bs.getD 2 []) vs) ((List.range i).map (nulC (bs.getD 0 []) i)) i = rdS f i (bs.getD 0 []) (bs.getD 1 []) (bs.getD 2 []) vs := by
          have := mkPre_full (cdS f i (bs.getD 0 []) (bs.getD 1 []) (bs.getD 2 []) vs) ((List.range i).map (nulC (bs.getD 0 []) i))
          rw [hnl] at this
          exact this
        rw [hfull] at s47
        clear hK
        generalize rdS f i (bs.getD 0 []) (bs.getD 1 []) (bs.getD 2 []) vs = cs1 at *
        simp -dsimp -implicitDefEqProofs only [go_sem, Nat.reduceBEq, Nat.reduceAdd, Nat.reduceLeDiff, Nat.reduceSub, Int.reduceEq, k1, k2, k3, k4, k10, k11, k15, s4, s47]
        repeat (first | with_reducible refine ask.of (by first | omega | decide) ?_ | simp -dsimp -implicitDefEqProofs only [go_sem, Nat.reduceBEq, Nat.reduceAdd, Nat.reduceLeDiff, Nat.reduceSub, Int.reduceEq, k1, k2, k3, k4, k10, k11, k15, s4, s47, initE, bl3])
        refine CallE.of (c_specBuildColumn f cs1 vs hf (by omega) (by omega)) (by rintro r rfl; (repeat' first | exact trivial | exact pure_rowB _ | exact pure_rowO _ | exact pure_rowI _ | exact pure_rowBB _ | exact pure_rowPk _ _ | exact pure_rowSn _ _ | exact pure_rowFd _ _ | exact pure_rowBBB _ | exact pure_rowCl _ _ | exact pure_rowTb _ _ _ | refine And.intro ?_ ?_)) (by simp -dsimp -implicitDefEqProofs only [go_sem, Nat.reduceBEq, Nat.reduceAdd, Nat.reduceLeDiff, Nat.reduceSub, Int.reduceEq, k1, k2, k3, k4, k10, k11, k15, s4, s47, fdC, rowCl]) ?_
        rintro r rfl
        simp -dsimp -implicitDefEqProofs only [go_sem, Nat.reduceBEq, Nat.reduceAdd, Nat.reduceLeDiff, Nat.reduceSub, Int.reduceEq, k1, k2, k3, k4, k10, k11, k15, s4, s47, fdC, rowCl]
        unfold resB
        have hY : ∀ y, bldL f cs1 vs = y → y.2 = 0 ∧ y.1 = bs → rdOf f i bs vs cs1 := fun y hy h => ⟨by omega, hR1, by rw [hy, ← h.1, ← h.2]⟩
        have hN : ∀ y, bldL f cs1 vs = y → ¬ (y.2 = 0 ∧ y.1 = bs) → ∀ cs, ¬ rdOf f i bs vs cs := fun y hy h cs hc => by
          have e := hRb cs hc
          have h9 := hc.2.2
          rw [← e, hy] at h9
          exact h ⟨by rw [h9], by rw [h9]⟩
        have hT := bldL_Q (f := f) (cs := cs1) (vs := vs) (by omega)
        have hW : ∀ y, bldL f cs1 vs = y → y.2 = 0 → y.1.length = wantN f := fun y hy h => by
          have h9 : bldL f cs1 vs = (y.1, 0) := by rw [hy, ← h]
          obtain ⟨g1, g2⟩ := bld_inv h9
          have := (body_w g1).2.2.2
          rw [g2, List.length_cons, this]
        generalize bldL f cs1 vs = y at *
        replace hY := hY y rfl
        replace hN := hN y rfl
        replace hW := hW y rfl
        obtain ⟨yb, yc⟩ := y
        simp only at hY hN hT hW
        repeat (first | with_reducible refine ask.of (by first | omega | decide) ?_ | simp -dsimp -implicitDefEqProofs only [go_sem, Nat.reduceBEq, Nat.reduceAdd, Nat.reduceLeDiff, Nat.reduceSub, Int.reduceEq, k1, k2, k3, k4, k10, k11, k15, s4, s47, initE, bl3])
        refine ifB'.of (fun hc => ?_) (fun hc => ?_)
        rotate_left
        · repeat' (first | exact rc_no hg (hN fun h => hc h.1) | with_reducible refine ask.of (by first | omega | decide) ?_ | simp -dsimp -implicitDefEqProofs only [go_sem, Nat.reduceBEq, Nat.reduceAdd, Nat.reduceLeDiff, Nat.reduceSub, Int.reduceEq, k1, k2, k3, k4, k10, k11, k15, s4, s47, initE, bl3])
        replace hW := hW hc
        repeat (first | with_reducible refine ask.of (by first | omega | decide) ?_ | simp -dsimp -implicitDefEqProofs only [go_sem, Nat.reduceBEq, Nat.reduceAdd, Nat.reduceLeDiff, Nat.reduceSub, Int.reduceEq, k1, k2, k3, k4, k10, k11, k15, s4, s47, initE, bl3])
        refine LoopE.cnt 2 (fun j s => s.env 2 = .rd .ent 22 1 (ra byC bs) ∧ s.env 10 = .v (.int .i64 2) ∧ s.env 11 = .ref [47] ∧ s.env 20 = .ref [201, 0] ∧ s.env 22 = .v (.int .i64 j) ∧ s.σ [47] = some (.row 145 3 (ra clC cs1)) ∧ s.σ [201, 0] = some (.row 22 1 (ra byC yb)) ∧ yb.take j = bs.take j) ⟨by simp -dsimp -implicitDefEqProofs only [go_sem, Nat.reduceBEq, Nat.reduceAdd, Nat.reduceLeDiff, Nat.reduceSub, Int.reduceEq, k1, k2, k3, k4, k10, k11, k15, s4, s47], by simp -dsimp -implicitDefEqProofs only [go_sem, Nat.reduceBEq, Nat.reduceAdd, Nat.reduceLeDiff, Nat.reduceSub, Int.reduceEq, k1, k2, k3, k4, k10, k11, k15, s4, s47], by simp -dsimp -implicitDefEqProofs only [go_sem, Nat.reduceBEq, Nat.reduceAdd, Nat.reduceLeDiff, Nat.reduceSub, Int.reduceEq, k1, k2, k3, k4, k10, k11, k15, s4, s47], by simp -dsimp -implicitDefEqProofs only [go_sem, Nat.reduceBEq, Nat.reduceAdd, Nat.reduceLeDiff, Nat.reduceSub, Int.reduceEq, k1, k2, k3, k4, k10, k11, k15, s4, s47], by simp -dsimp -implicitDefEqProofs only [go_sem, Nat.reduceBEq, Nat.reduceAdd, Nat.reduceLeDiff, Nat.reduceSub, Int.reduceEq, k1, k2, k3, k4, k10, k11, k15, s4, s47] <;> rfl, by simp -dsimp -implicitDefEqProofs only [go_sem, Nat.reduceBEq, Nat.reduceAdd, Nat.reduceLeDiff, Nat.reduceSub, Int.reduceEq, k1, k2, k3, k4, k10, k11, k15, s4, s47], by simp -dsimp -implicitDefEqProofs only [go_sem, Nat.reduceBEq, Nat.reduceAdd, Nat.reduceLeDiff, Nat.reduceSub, Int.reduceEq, k1, k2, k3, k4, k10, k11, k15, s4, s47], by simp⟩ ?_
        clear k1 k2 k3 k4 k10 k11 k15 s4 s47
        rintro j ⟨e, σ⟩ hj ⟨k2, k10, k11, k20, k22, s47, s201, hall⟩ K hK
        simp only at k2 k10 k11 k20 k22 s47 s201
        simp -dsimp -implicitDefEqProofs only [go_sem, Nat.reduceBEq, Nat.reduceAdd, Nat.reduceLeDiff, Nat.reduceSub, Int.reduceEq, k2, k10, k11, k20, k22, s47, s201]
        refine ifB'.of (fun hlt => ?_) (fun hlt => ?_)
        · have hlt : j < 2 := by omega
          have hj1 : j < yb.length := by omega
          have hj2 : j < bs.length := by omega
          repeat (first | with_reducible refine ask.of (by first | omega | decide) ?_ | simp -dsimp -implicitDefEqProofs only [go_sem, Nat.reduceBEq, Nat.reduceAdd, Nat.reduceLeDiff, Nat.reduceSub, Int.reduceEq, k2, k10, k11, k20, k22, s47, s201, byA_at hj1, byA_at hj2, bl3])
          refine CallE.of (c_l1same yb[j] bs[j] (by have := hT.2 _ (List.getElem_mem hj1); omega) (by have := hbb _ (List.getElem_mem hj2); omega)) (by rintro r rfl; trivial) (by simp -dsimp -implicitDefEqProofs only [go_sem, Nat.reduceBEq, Nat.reduceAdd, Nat.reduceLeDiff, Nat.reduceSub, Int.reduceEq, k2, k10, k11, k20, k22, s47, s201]) ?_
          rintro r rfl
          simp -dsimp -implicitDefEqProofs only [go_sem, Nat.reduceBEq, Nat.reduceAdd, Nat.reduceLeDiff, Nat.reduceSub, Int.reduceEq, k2, k10, k11, k20, k22, s47, s201]
          by_cases hq : yb[j] = bs[j]
          · simp -dsimp -implicitDefEqProofs only [go_sem, Nat.reduceBEq, Nat.reduceAdd, Nat.reduceLeDiff, Nat.reduceSub, Int.reduceEq, k2, k10, k11, k20, k22, s47, s201, decide_eq_true hq, Bool.not_true]
            refine hK _ hlt ?_
            simp -dsimp -implicitDefEqProofs only [go_sem, Nat.reduceBEq, Nat.reduceAdd, Nat.reduceLeDiff, Nat.reduceSub, Int.reduceEq, k2, k10, k11, k20, k22, s47, s201, wrap_succ (show j < 4611686018427387904 by omega)]
            exact bb_take hall hj1 hj2 hq
          · simp -dsimp -implicitDefEqProofs only [go_sem, Nat.reduceBEq, Nat.reduceAdd, Nat.reduceLeDiff, Nat.reduceSub, Int.reduceEq, k2, k10, k11, k20, k22, s47, s201, decide_eq_false hq, Bool.not_false]
            exact rc_no hg (hN fun h => bb_ne hj1 hj2 hq h.2)
        · have hje : j = 2 := by omega
          subst hje
          have e1 : yb.take 2 = yb := List.take_of_length_le (by omega)
          have e2 : bs.take 2 = bs := List.take_of_length_le (by omega)
          rw [e1, e2] at hall
          simp -dsimp -implicitDefEqProofs only [go_sem, Nat.reduceBEq, Nat.reduceAdd, Nat.reduceLeDiff, Nat.reduceSub, Int.reduceEq, k2, k10, k11, k20, k22, s47, s201]
          exact rc_yes hg hbb (hY ⟨hc, hall⟩)
end Go.Ev
set_option linter.unusedSimpArgs false
set_option linter.unusedVariables false
namespace Go.Ev
open Go Go.RowKit Go.Proofs
theorem wrapM (m j : Nat) (h : m + j < 4611686018427387904) : IntKind.i64.wrap (((m + j : Nat) : Int) + 1) = ((m + (j + 1) : Nat) : Int) := by rw [wrap_i64_of (by omega) (by omega)]; omega
def mkCl (k : Nat) (c : Cl) : Cl := ⟨decide ((k : Int).tmod 3 = 0), ((k + 1 : Nat) : Int), mkB (k + 2) c.f.length⟩
def szCl (c : Cl) : Nat := 2 + c.f.length
def mkClS (k : Nat) (xs : List Cl) : List Cl := mkL mkCl szCl k xs
theorem mkCl_at' {xs : List Cl} {i : Nat} {s : Cl} (h : xs[i]? = some s) : (ra clC xs)[i]? = some (clC s) := ra_at' h
theorem mkCl_set (xs : List Cl) (i : Nat) (s : Cl) : (ra clC xs).set i [.v (.bool s.z), .v (.int .i64 s.i), .row 5 1 (bytesA s.f)] = ra clC (xs.set i s) := ra_set (enc := clC) xs i s
set_option maxHeartbeats 4000000 in
set_option maxRecDepth 8000 in
theorem c_markCellS (xs : List Cl) (k : Nat) (hk : k + szL szCl xs ≤ 4611686018427387904) (hx : xs.length ≤ 1048576) (hb : ∀ b ∈ xs, b.f.length ≤ 1048576) : MeetsM Try.prog 64 [.mu (rowCl 145 xs), .rd (.v (.int .i64 k))] (fun r rs => r = .v (.int .i64 ((k + szL szCl xs : Nat) : Int)) ∧ rs = [rowCl 145 (mkClS k xs), .any]) := by
  refine MeetsM.intro mixed (hint []) Try.func64 rfl (by decide) res_64 rty_64 (pts := parTys Try.prog 64) (by rw [par_64]; rfl) (by kernel_rfl) ?_; rw [par_64]; intro vals; 
  simp -dsimp -implicitDefEqProofs only [go_sem, Nat.reduceBEq, Nat.reduceAdd, Nat.reduceLeDiff, Nat.reduceSub, Int.reduceEq, rowCl]
  refine LoopE.cnt xs.length (fun i s => s.env 0 = .ref [1000000, 0] ∧ s.env 1 = .v (.int .i64 ((k + szL szCl (xs.take i) : Nat) : Int)) ∧ s.env 5 = .v (.int .i64 i) ∧ s.σ [1000000, 0] = some (.row 145 3 (ra clC (mkLP mkCl szCl k xs i))) ∧ s.σ [1000001, 0] = some (.pin (.ref [1000000, 0]) (vals 0))) ⟨by simp -dsimp -implicitDefEqProofs only [go_sem, Nat.reduceBEq, Nat.reduceAdd, Nat.reduceLeDiff, Nat.reduceSub, Int.reduceEq], by simp -dsimp -implicitDefEqProofs only [go_sem, Nat.reduceBEq, Nat.reduceAdd, Nat.reduceLeDiff, Nat.reduceSub, Int.reduceEq] <;> simp [szL], by simp -dsimp -implicitDefEqProofs only [go_sem, Nat.reduceBEq, Nat.reduceAdd, Nat.reduceLeDiff, Nat.reduceSub, Int.reduceEq] <;> simp, by simp -dsimp -implicitDefEqProofs only [go_sem, Nat.reduceBEq, Nat.reduceAdd, Nat.reduceLeDiff, Nat.reduceSub, Int.reduceEq, mkLP_zero], by simp -dsimp -implicitDefEqProofs only [go_sem, Nat.reduceBEq, Nat.reduceAdd, Nat.reduceLeDiff, Nat.reduceSub, Int.reduceEq]⟩ ?_
  rintro i ⟨e, σ⟩ hi ⟨h0, h1, h5, hs, hp⟩ K hK
  simp only at h0 h1 h5 hs hp
  have hl := mkLP_length mkCl szCl k hi
  simp -dsimp -implicitDefEqProofs only [go_sem, Nat.reduceBEq, Nat.reduceAdd, Nat.reduceLeDiff, Nat.reduceSub, Int.reduceEq, h0, h1, h5, hs, hp, hl]
  refine ifB'.of (fun hlt => ?_) (fun hlt => ?_)
  · have hlt : i < xs.length := by omega
    have hw := szL_at_le szCl hlt
    have hpb := hb _ (List.getElem_mem hlt)
    have hat := mkCl_at' (mkLP_at mkCl szCl k hlt)
    have hgs : ∀ c : List AV, ((ra clC (mkLP mkCl szCl k xs i)).set i c)[i]? = some c := fun c => by rw [List.getElem?_set_self]; rw [ra_length]; omega
    obtain ⟨m, hm⟩ : ∃ m, k + szL szCl (xs.take i) = m := ⟨_, rfl⟩
    rw [hm] at h1
    have hwm : m + szCl xs[i] ≤ 4611686018427387904 := by omega
    unfold szCl at hwm
    have e0 : IntKind.i64.wrap ((m : Int) + 1) = ((m + 1 : Nat) : Int) := wrapM m 0 (by omega)
    have e1 := wrapM m 1 (by omega)
    repeat (first | with_reducible refine ask.of (by first | omega | decide | (simp [hl]; omega)) ?_ | simp -dsimp -implicitDefEqProofs only [go_sem, Nat.reduceBEq, Nat.reduceAdd, Nat.reduceLeDiff, Nat.reduceSub, Int.reduceEq, h0, h1, h5, hs, hp, hl, hat, clC, hgs, List.set_set, List.length_set, bl3, e0, e1])
    refine CallE.mut (c_markByteS xs[i].f (m + 2) (by omega) (by omega)) (by simp -dsimp -implicitDefEqProofs only [go_sem, Nat.reduceBEq, Nat.reduceAdd, Nat.reduceLeDiff, Nat.reduceSub, Int.reduceEq, h0, h1, h5, hs, hp]) (by rintro r rs ⟨rfl, rfl⟩; exact ⟨by (repeat' first | exact trivial | exact pure_rowB _ | exact pure_rowO _ | exact pure_rowI _ | exact pure_rowBB _ | exact pure_rowPk _ _ | exact pure_rowSn _ _ | exact pure_rowFd _ _ | exact pure_rowBBB _ | exact pure_rowCl _ _ | exact pure_rowTb _ _ _ | refine And.intro ?_ ?_), by first | exact ⟨by (repeat' first | exact trivial | exact pure_rowB _ | exact pure_rowO _ | exact pure_rowI _ | exact pure_rowBB _ | exact pure_rowPk _ _ | exact pure_rowSn _ _ | exact pure_rowFd _ _ | exact pure_rowBBB _ | exact pure_rowCl _ _ | exact pure_rowTb _ _ _ | refine And.intro ?_ ?_), trivial⟩ | exact ⟨by (repeat' first | exact trivial | exact pure_rowB _ | exact pure_rowO _ | exact pure_rowI _ | exact pure_rowBB _ | exact pure_rowPk _ _ | exact pure_rowSn _ _ | exact pure_rowFd _ _ | exact pure_rowBBB _ | exact pure_rowCl _ _ | exact pure_rowTb _ _ _ | refine And.intro ?_ ?_), trivial, trivial⟩⟩) (by simp -dsimp -implicitDefEqProofs only [go_sem, Nat.reduceBEq, Nat.reduceAdd, Nat.reduceLeDiff, Nat.reduceSub, Int.reduceEq, h0, h1, h5, hs, hp, hgs, hat, List.set_set, clC]) (by simp -dsimp -implicitDefEqProofs only [go_sem, Nat.reduceBEq, Nat.reduceAdd, Nat.reduceLeDiff, Nat.reduceSub, Int.reduceEq, h0, h1, h5, hs, hp, hgs, hat, List.set_set, clC]) ?_
    rintro r rs ⟨rfl, rfl⟩
    simp -dsimp -implicitDefEqProofs only [go_sem, Nat.reduceBEq, Nat.reduceAdd, Nat.reduceLeDiff, Nat.reduceSub, Int.reduceEq, h0, h1, h5, hs, hp, hgs, hat, List.set_set, clC]
    repeat (first | with_reducible refine ask.of (by first | omega | decide | (simp [hl]; omega)) ?_ | simp -dsimp -implicitDefEqProofs only [go_sem, Nat.reduceBEq, Nat.reduceAdd, Nat.reduceLeDiff, Nat.reduceSub, Int.reduceEq, h0, h1, h5, hs, hp, hl, hgs, List.set_set, List.length_set, bl3, e0, e1])
    refine hK _ hlt ?_
    simp -dsimp -implicitDefEqProofs only [go_sem, Nat.reduceBEq, Nat.reduceAdd, Nat.reduceLeDiff, Nat.reduceSub, Int.reduceEq, h0, h1, h5, hs, hp, hgs, List.set_set, wrap_succ (show i < 4611686018427387904 by omega), szL_take_succ szCl hlt]
    refine ⟨by rw [← hm]; unfold szCl; omega, ?_⟩
    rw [← mkLP_set mkCl szCl k hlt (y := mkCl m xs[i]) (by rw [hm]), ← mkCl_set]
    rfl
  · have : i = xs.length := by omega
    subst this
    simp -dsimp -implicitDefEqProofs only [go_sem, Nat.reduceBEq, Nat.reduceAdd, Nat.reduceLeDiff, Nat.reduceSub, Int.reduceEq, h0, h1, h5, hs, hp, mkLP_full, List.take_length]
    rfl
set_option maxHeartbeats 4000000 in
set_option maxRecDepth 8000 in
theorem c_heldCellS (xs : List Cl) (k : Nat) (hk : k + szL szCl xs ≤ 4611686018427387904) (hx : xs.length ≤ 1048576) (hb : ∀ b ∈ xs, b.f.length ≤ 1048576) : Meets Try.prog 65 [rowCl 145 (mkClS k xs), .v (.int .i64 k)] (fun r => r = .v (.int .i64 ((k + szL szCl xs : Nat) : Int))) := by
  refine Meets.intro mixed (hint []) Try.func65 rfl (by decide) res_65 rty_65 (by kernel_rfl) ?_; 
  simp -dsimp -implicitDefEqProofs only [go_sem, Nat.reduceBEq, Nat.reduceAdd, Nat.reduceLeDiff, Nat.reduceSub, Int.reduceEq, rowCl]
  refine LoopE.cnt xs.length (fun i s => s.env 0 = .rd .ent 145 3 (ra clC (mkClS k xs)) ∧ s.env 1 = .v (.int .i64 ((k + szL szCl (xs.take i) : Nat) : Int)) ∧ s.env 5 = .v (.int .i64 i)) ⟨by simp -dsimp -implicitDefEqProofs only [go_sem, Nat.reduceBEq, Nat.reduceAdd, Nat.reduceLeDiff, Nat.reduceSub, Int.reduceEq, initE, rowCl], by simp -dsimp -implicitDefEqProofs only [go_sem, Nat.reduceBEq, Nat.reduceAdd, Nat.reduceLeDiff, Nat.reduceSub, Int.reduceEq, initE] <;> simp [szL], by simp -dsimp -implicitDefEqProofs only [go_sem, Nat.reduceBEq, Nat.reduceAdd, Nat.reduceLeDiff, Nat.reduceSub, Int.reduceEq] <;> simp⟩ ?_
  rintro i ⟨e, σ⟩ hi ⟨h0, h1, h5⟩ K hK
  simp only at h0 h1 h5
  have hl : (mkClS k xs).length = xs.length := mkL_length mkCl szCl k xs
  simp -dsimp -implicitDefEqProofs only [go_sem, Nat.reduceBEq, Nat.reduceAdd, Nat.reduceLeDiff, Nat.reduceSub, Int.reduceEq, h0, h1, h5, hl]
  refine ifB'.of (fun hlt => ?_) (fun hlt => ?_)
  · have hlt : i < xs.length := by omega
    have hw := szL_at_le szCl hlt
    have hpb := hb _ (List.getElem_mem hlt)
    have hat := mkCl_at' (mkL_at mkCl szCl k hlt)
    obtain ⟨m, hm⟩ : ∃ m, k + szL szCl (xs.take i) = m := ⟨_, rfl⟩
    rw [hm] at h1 hat
    have hat : (ra clC (mkClS k xs))[i]? = some (clC (mkCl m xs[i])) := hat
    have hwm : m + szCl xs[i] ≤ 4611686018427387904 := by omega
    unfold szCl at hwm
    have e0 : IntKind.i64.wrap ((m : Int) + 1) = ((m + 1 : Nat) : Int) := wrapM m 0 (by omega)
    have e1 := wrapM m 1 (by omega)
    repeat (first | with_reducible refine ask.of (by first | omega | decide | (simp [hl]; omega)) ?_ | simp -dsimp -implicitDefEqProofs only [go_sem, Nat.reduceBEq, Nat.reduceAdd, Nat.reduceLeDiff, Nat.reduceSub, Int.reduceEq, h0, h1, h5, hl, hat, clC, mkCl, bl3, e0, e1, decide_true, Bool.not_true])
    refine CallE.of (c_heldByteS (m + 2) xs[i].f.length (by omega) (by omega)) (by rintro r rfl; (repeat' first | exact trivial | exact pure_rowB _ | exact pure_rowO _ | exact pure_rowI _ | exact pure_rowBB _ | exact pure_rowPk _ _ | exact pure_rowSn _ _ | exact pure_rowFd _ _ | exact pure_rowBBB _ | exact pure_rowCl _ _ | exact pure_rowTb _ _ _ | refine And.intro ?_ ?_)) (by simp -dsimp -implicitDefEqProofs only [go_sem, Nat.reduceBEq, Nat.reduceAdd, Nat.reduceLeDiff, Nat.reduceSub, Int.reduceEq, h0, h1, h5, mkB, clC, mkBB]) ?_
    rintro r rfl
    simp -dsimp -implicitDefEqProofs only [go_sem, Nat.reduceBEq, Nat.reduceAdd, Nat.reduceLeDiff, Nat.reduceSub, Int.reduceEq, h0, h1, h5, mkB, clC, mkBB]
    with_reducible refine ifB'.no (by omega) ?_
    repeat (first | with_reducible refine ask.of (by first | omega | decide | (simp [hl]; omega)) ?_ | simp -dsimp -implicitDefEqProofs only [go_sem, Nat.reduceBEq, Nat.reduceAdd, Nat.reduceLeDiff, Nat.reduceSub, Int.reduceEq, h0, h1, h5, hl, hat, clC, mkCl, bl3, e0, e1, decide_true, Bool.not_true])
    refine hK _ hlt ?_
    simp -dsimp -implicitDefEqProofs only [go_sem, Nat.reduceBEq, Nat.reduceAdd, Nat.reduceLeDiff, Nat.reduceSub, Int.reduceEq, h0, h1, h5, wrap_succ (show i < 4611686018427387904 by omega), szL_take_succ szCl hlt]
    rw [← hm]; unfold szCl; omega
  · have : i = xs.length := by omega
    subst this
    simp -dsimp -implicitDefEqProofs only [go_sem, Nat.reduceBEq, Nat.reduceAdd, Nat.reduceLeDiff, Nat.reduceSub, Int.reduceEq, h0, h1, h5, List.take_length]
end Go.Ev
