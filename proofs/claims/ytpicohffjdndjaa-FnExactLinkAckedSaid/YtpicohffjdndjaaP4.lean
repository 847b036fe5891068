/- Contracts: bits out of bytes, the other way. -/
import Derived.Test.YtpicohffjdndjaaP3
set_option linter.unusedSimpArgs false
set_option linter.unusedVariables false
namespace Go.Ev
open Go Go.RowKit Go.Proofs
theorem c_bytesEqual (a b : List UInt8) (ha : a.length ≤ 140737488355328) (hb : b.length ≤ 140737488355328) : Meets Try.prog 104 [rowB a, rowB b] (fun r => r = .v (.bool (decide (a = b)))) := by
  refine Meets.intro mixed (hint []) Try.func104 rfl (by decide) res_104 rty_104 (by kernel_rfl) ?_; 
  simp -dsimp -implicitDefEqProofs only [go_sem, Nat.reduceBEq, Nat.reduceAdd, Nat.reduceLeDiff, Nat.reduceSub, Int.reduceEq, initE]
  exact decide_eq_decide.2 ⟨fun h => by simpa using h, fun h => by rw [h]⟩
def bitT (b : List UInt8) (n i : Nat) : List Bool := (List.range n).map fun j => decide (j < i) && bitB b j
theorem bitT_length (b : List UInt8) (n i : Nat) : (bitT b n i).length = n := by simp [bitT]
theorem bitT_zero (b : List UInt8) (n : Nat) : bitT b n 0 = List.replicate n false := by
  apply List.ext_getElem (by simp [bitT])
  intro i h1 h2
  simp [bitT]
theorem bitT_full (b : List UInt8) (n : Nat) : bitT b n n = bitsB b n := by
  apply List.ext_getElem (by simp [bitT, bitsB])
  intro i h1 h2
  simp [bitT, bitsB]
  simp [bitT] at h1
  omega
theorem bitT_set (b : List UInt8) {n i : Nat} (h : i < n) : (bitT b n i).set i (bitB b i) = bitT b n (i + 1) := by
  apply List.ext_getElem (by simp [bitT])
  intro j h1 h2
  rw [List.getElem_set]
  split
  · rename_i hj; subst hj; simp [bitT]
  · rename_i hj
    simp only [bitT, List.getElem_map, List.getElem_range]
    congr 1
    exact decide_eq_decide.2 ⟨fun h => by omega, fun h => by omega⟩
theorem bitsB_get (b : List UInt8) (n j : Nat) : (bitsB b n)[j]?.getD false = (decide (j < n) && bitB b j) := by
  by_cases h : j < n
  · simp [bitsB, h]
  · simp [bitsB, h]
theorem bitAt_val (l : List Bool) (j : Nat) (x : Bool) (h : l[j]?.getD false = x) : bitAt l j = x.toNat := by rw [bitAt, h]
theorem hvS_bit (l : List Bool) (q k : Nat) (hk : k < 8) : bitOf (UInt8.ofNat (hvS l (8 * q) 8)) k = l[8 * q + k]?.getD false := by
  have e : (UInt8.ofNat (hvS l (8 * q) 8)).toNat = hvS l (8 * q) 8 := by
    have := hvS_256 l (8 * q) 8 (by omega)
    simp; omega
  have e2 : hvS l (8 * q) 8 / 2 ^ k % 2 = bitAt l (8 * q + k) := by
    simp only [hvS, Nat.sub_zero, Nat.add_zero]
    have h0 := bitAt_le l (8 * q)
    have h1 := bitAt_le l (8 * q + 1)
    have h2 := bitAt_le l (8 * q + 2)
    have h3 := bitAt_le l (8 * q + 3)
    have h4 := bitAt_le l (8 * q + 4)
    have h5 := bitAt_le l (8 * q + 5)
    have h6 := bitAt_le l (8 * q + 6)
    have h7 := bitAt_le l (8 * q + 7)
    match k, hk with
    | 0, _ => simp; omega
    | 1, _ => simp; omega
    | 2, _ => simp; omega
    | 3, _ => simp; omega
    | 4, _ => simp; omega
    | 5, _ => simp; omega
    | 6, _ => simp; omega
    | 7, _ => simp; omega
  unfold bitOf
  rw [e, e2]
  unfold bitAt
  cases l[8 * q + k]?.getD false <;> rfl
theorem bits_ext (c d : UInt8) (h : ∀ k, k < 8 → bitOf c k = bitOf d k) : c = d := by
  have e : ∀ k, k < 8 → c.toNat / 2 ^ k % 2 = d.toNat / 2 ^ k % 2 := fun k hk => by
    have := h k hk
    unfold bitOf at this
    have := decide_eq_decide.1 this
    omega
  have h0 := e 0 (by omega)
  have h1 := e 1 (by omega)
  have h2 := e 2 (by omega)
  have h3 := e 3 (by omega)
  have h4 := e 4 (by omega)
  have h5 := e 5 (by omega)
  have h6 := e 6 (by omega)
  have h7 := e 7 (by omega)
  have hc := c.toNat_lt
  have hd := d.toNat_lt
  simp at h0 h1 h2 h3 h4 h5 h6 h7
  exact UInt8.toNat_inj.1 (by omega)
theorem pack_unpack (b : List UInt8) (n : Nat) (h : packN (bitsB b n) = b.length) : packB (bitsB b n) = b ↔ padOk b n := by
  have hg : ∀ q (hq : q < b.length) k, k < 8 → bitOf ((packB (bitsB b n))[q]'(by rw [packB_length, h]; exact hq)) k = (decide (8 * q + k < n) && bitB b (8 * q + k)) := fun q hq k hk => by
    simp only [packB, List.getElem_map, List.getElem_range]
    rw [hvS_bit _ _ _ hk, bitsB_get]
  have hB : ∀ q (hq : q < b.length) k, k < 8 → bitB b (8 * q + k) = bitOf b[q] k := fun q hq k hk => by
    have e1 : (8 * q + k) / 8 = q := by omega
    have e2 : (8 * q + k) % 8 = k := by omega
    rw [bitB, e1, e2]; simp [hq]
  constructor
  · intro he j h1 h2
    have hq : j / 8 < b.length := by omega
    have := hg (j / 8) hq (j % 8) (by omega)
    simp only [he] at this
    rw [← hB _ hq _ (by omega), show 8 * (j / 8) + j % 8 = j by omega, decide_eq_false (by omega)] at this
    exact this
  · intro hp
    apply List.ext_getElem (by rw [packB_length, h])
    intro q h1 h2
    refine bits_ext _ _ fun k hk => ?_
    rw [hg q h2 k hk, ← hB q h2 k hk]
    by_cases hj : 8 * q + k < n
    · simp [hj]
    · simp [hj, hp (8 * q + k) (by omega) (by omega)]
theorem c_implUnpackBits (b : List UInt8) (n : Int) (hb : b.length ≤ 1048576) (hn : -9223372036854775808 ≤ n) (hn' : n ≤ 9223372036854775807) : Meets Try.prog 39 [rowB b, .v (.int .i64 n)] (fun r => r = .tup [rowO (unpackC b n).1, .v (.int .i64 (unpackC b n).2)]) := by
  refine Meets.intro mixed (hint []) Try.func39 rfl (by decide) res_39 rty_39 (by kernel_rfl) ?_; 
  simp -dsimp -implicitDefEqProofs only [go_sem, Nat.reduceBEq, Nat.reduceAdd, Nat.reduceLeDiff, Nat.reduceSub, Int.reduceEq]
  refine ifB'.of (fun h => ?_) (fun h => ?_)
  · simp -dsimp -implicitDefEqProofs only [go_sem, Nat.reduceBEq, Nat.reduceAdd, Nat.reduceLeDiff, Nat.reduceSub, Int.reduceEq]
    rw [unpackC, if_pos h]; rfl
  obtain ⟨m, rfl⟩ : ∃ m : Nat, n = m := ⟨n.toNat, by omega⟩
  have e1 : IntKind.i64.wrap ((m : Int).tdiv 8) = ((m / 8 : Nat) : Int) := by rw [Int.tdiv_eq_ediv_of_nonneg (by omega), wrap_i64_of (by omega) (by omega)]; omega
  have e2 : IntKind.i64.wrap (((m / 8 : Nat) : Int) + 1) = ((m / 8 + 1 : Nat) : Int) := by rw [wrap_i64_of (by omega) (by omega)]; omega
  have fin3 : (b.length : Int) ≠ ((m + 7) / 8 : Nat) → unpackC b m = ([], 3) := fun h2 => by rw [unpackC, if_neg h, if_pos (by omega)]
  have fin : (b.length : Int) = ((m + 7) / 8 : Nat) → unpackC b m = if padOk b m then (bitsB b m, 0) else ([], 3) := fun h2 => by rw [unpackC, if_neg h, if_neg (by omega)]; rfl
  have pw : (b.length : Int) = ((m + 7) / 8 : Nat) → packN (bitsB b m) = b.length := fun h2 => by unfold packN; rw [bitsB_length]; omega
  simp -dsimp -implicitDefEqProofs only [go_sem, Nat.reduceBEq, Nat.reduceAdd, Nat.reduceLeDiff, Nat.reduceSub, Int.reduceEq, e1, tmod8']
  refine ifB'.of (fun hr => ?_) (fun hr => ?_)
  · have ez : m / 8 + 1 = (m + 7) / 8 := by omega
    simp -dsimp -implicitDefEqProofs only [go_sem, Nat.reduceBEq, Nat.reduceAdd, Nat.reduceLeDiff, Nat.reduceSub, Int.reduceEq, e2]
    refine ifB'.of (fun h2 => ?_) (fun h2 => ?_)
    rotate_left
    · simp -dsimp -implicitDefEqProofs only [go_sem, Nat.reduceBEq, Nat.reduceAdd, Nat.reduceLeDiff, Nat.reduceSub, Int.reduceEq, fin3 (by omega)]
      rfl
    have h2 : (b.length : Int) = ((m + 7) / 8 : Nat) := by omega
    simp -dsimp -implicitDefEqProofs only [go_sem, Nat.reduceBEq, Nat.reduceAdd, Nat.reduceLeDiff, Nat.reduceSub, Int.reduceEq]
    repeat with_reducible refine ask.of (by omega) ?_
    refine LoopE.cnt m (fun i s => s.env 0 = .rd .ent 5 1 (bytesA b) ∧ s.env 25 = .v (.int .i64 m) ∧ s.env 26 = .v (.int .i64 i) ∧ s.env 7 = .ref [23] ∧ s.σ [23] = some (.row 4 1 (ra boolC (bitT b m i)))) ⟨by simp -dsimp -implicitDefEqProofs only [go_sem, Nat.reduceBEq, Nat.reduceAdd, Nat.reduceLeDiff, Nat.reduceSub, Int.reduceEq, initE], by simp -dsimp -implicitDefEqProofs only [go_sem, Nat.reduceBEq, Nat.reduceAdd, Nat.reduceLeDiff, Nat.reduceSub, Int.reduceEq, initE], by simp -dsimp -implicitDefEqProofs only [go_sem, Nat.reduceBEq, Nat.reduceAdd, Nat.reduceLeDiff, Nat.reduceSub, Int.reduceEq] <;> simp, by simp -dsimp -implicitDefEqProofs only [go_sem, Nat.reduceBEq, Nat.reduceAdd, Nat.reduceLeDiff, Nat.reduceSub, Int.reduceEq], by simp -dsimp -implicitDefEqProofs only [go_sem, Nat.reduceBEq, Nat.reduceAdd, Nat.reduceLeDiff, Nat.reduceSub, Int.reduceEq, bitT_zero]⟩ ?_
    rintro i ⟨e, σ⟩ hi ⟨h0, h25, h26, h7, hs⟩ K hK
    simp only at h0 h25 h26 h7 hs
    simp -dsimp -implicitDefEqProofs only [go_sem, Nat.reduceBEq, Nat.reduceAdd, Nat.reduceLeDiff, Nat.reduceSub, Int.reduceEq, h0, h25, h26, h7, hs]
    refine ifB'.of (fun hlt => ?_) (fun hlt => ?_)
    · have hlt : i < m := by omega
      have hd : i / 8 < b.length := by omega
      have e7 : i % 8 < 8 := by omega
      obtain ⟨x, hx⟩ : ∃ x, (bitT b m i)[i]? = some x := ⟨_, List.getElem?_eq_getElem (by rw [bitT_length]; exact hlt)⟩
      simp -dsimp -implicitDefEqProofs only [go_sem, Nat.reduceBEq, Nat.reduceAdd, Nat.reduceLeDiff, Nat.reduceSub, Int.reduceEq, h0, h25, h26, h7, hs, tdiv8 (show i < 4611686018427387904 by omega), bytesA_at hd, tmod8', u8_shr (b[i / 8]'hd) (i % 8) e7, bit_eq' hd, bitT_length, boolA_at' hx]
      repeat with_reducible refine ask.of (by omega) ?_
      refine hK _ hlt ?_
      simp -dsimp -implicitDefEqProofs only [go_sem, Nat.reduceBEq, Nat.reduceAdd, Nat.reduceLeDiff, Nat.reduceSub, Int.reduceEq, h0, h25, h26, h7, hs, wrap_succ (show i < 4611686018427387904 by omega), u8_and1 _ (show b[i / 8].toNat / 2 ^ (i % 8) < 256 from Nat.lt_of_le_of_lt (Nat.div_le_self _ _) (UInt8.toNat_lt _)), bit_eq' hd, bitT_set b hlt]
    · obtain rfl : i = m := by omega
      rw [bitT_full] at hs
      simp -dsimp -implicitDefEqProofs only [go_sem, Nat.reduceBEq, Nat.reduceAdd, Nat.reduceLeDiff, Nat.reduceSub, Int.reduceEq, h0, h25, h26, h7, hs]
      refine CallE.of (c_iPackBits (bitsB b i) (by rw [bitsB_length]; omega)) (by rintro r rfl; (repeat' first | exact trivial | exact pure_rowB _ | exact pure_rowO _ | exact pure_rowI _ | exact pure_rowBB _ | exact pure_rowPk _ _ | exact pure_rowSn _ _ | exact pure_rowFd _ _ | exact pure_rowBBB _ | exact pure_rowCl _ _ | refine And.intro ?_ ?_)) (by simp -dsimp -implicitDefEqProofs only [go_sem, Nat.reduceBEq, Nat.reduceAdd, Nat.reduceLeDiff, Nat.reduceSub, Int.reduceEq, h0, h25, h26, h7, hs]) ?_
      rintro r rfl
      simp -dsimp -implicitDefEqProofs only [go_sem, Nat.reduceBEq, Nat.reduceAdd, Nat.reduceLeDiff, Nat.reduceSub, Int.reduceEq, h0, h25, h26, h7, hs]
      refine CallE.of (c_bytesEqual (packB (bitsB b i)) b (by rw [packB_length, pw h2]; omega) (by omega)) (by rintro r rfl; (repeat' first | exact trivial | exact pure_rowB _ | exact pure_rowO _ | exact pure_rowI _ | exact pure_rowBB _ | exact pure_rowPk _ _ | exact pure_rowSn _ _ | exact pure_rowFd _ _ | exact pure_rowBBB _ | exact pure_rowCl _ _ | refine And.intro ?_ ?_)) (by simp -dsimp -implicitDefEqProofs only [go_sem, Nat.reduceBEq, Nat.reduceAdd, Nat.reduceLeDiff, Nat.reduceSub, Int.reduceEq, h0, h25, h26, h7, hs]) ?_
      rintro r rfl
      simp -dsimp -implicitDefEqProofs only [go_sem, Nat.reduceBEq, Nat.reduceAdd, Nat.reduceLeDiff, Nat.reduceSub, Int.reduceEq, h0, h25, h26, h7, hs]
      refine ifB'.of (fun hp => ?_) (fun hp => ?_)
      · simp -dsimp -implicitDefEqProofs only [go_sem, Nat.reduceBEq, Nat.reduceAdd, Nat.reduceLeDiff, Nat.reduceSub, Int.reduceEq, h0, h25, h26, h7, hs]
        rw [fin h2, if_pos ((pack_unpack b i (pw h2)).1 hp)]
        rfl
      · simp -dsimp -implicitDefEqProofs only [go_sem, Nat.reduceBEq, Nat.reduceAdd, Nat.reduceLeDiff, Nat.reduceSub, Int.reduceEq, h0, h25, h26, h7, hs]
        rw [fin h2, if_neg (fun hq => hp ((pack_unpack b i (pw h2)).2 hq))]
        rfl
  · have ez : m / 8 = (m + 7) / 8 := by omega
    simp -dsimp -implicitDefEqProofs only [go_sem, Nat.reduceBEq, Nat.reduceAdd, Nat.reduceLeDiff, Nat.reduceSub, Int.reduceEq, e1]
    refine ifB'.of (fun h2 => ?_) (fun h2 => ?_)
    rotate_left
    · simp -dsimp -implicitDefEqProofs only [go_sem, Nat.reduceBEq, Nat.reduceAdd, Nat.reduceLeDiff, Nat.reduceSub, Int.reduceEq, fin3 (by omega)]
      rfl
    have h2 : (b.length : Int) = ((m + 7) / 8 : Nat) := by omega
    simp -dsimp -implicitDefEqProofs only [go_sem, Nat.reduceBEq, Nat.reduceAdd, Nat.reduceLeDiff, Nat.reduceSub, Int.reduceEq]
    repeat with_reducible refine ask.of (by omega) ?_
    refine LoopE.cnt m (fun i s => s.env 0 = .rd .ent 5 1 (bytesA b) ∧ s.env 25 = .v (.int .i64 m) ∧ s.env 26 = .v (.int .i64 i) ∧ s.env 7 = .ref [23] ∧ s.σ [23] = some (.row 4 1 (ra boolC (bitT b m i)))) ⟨by simp -dsimp -implicitDefEqProofs only [go_sem, Nat.reduceBEq, Nat.reduceAdd, Nat.reduceLeDiff, Nat.reduceSub, Int.reduceEq, initE], by simp -dsimp -implicitDefEqProofs only [go_sem, Nat.reduceBEq, Nat.reduceAdd, Nat.reduceLeDiff, Nat.reduceSub, Int.reduceEq, initE], by simp -dsimp -implicitDefEqProofs only [go_sem, Nat.reduceBEq, Nat.reduceAdd, Nat.reduceLeDiff, Nat.reduceSub, Int.reduceEq] <;> simp, by simp -dsimp -implicitDefEqProofs only [go_sem, Nat.reduceBEq, Nat.reduceAdd, Nat.reduceLeDiff, Nat.reduceSub, Int.reduceEq], by simp -dsimp -implicitDefEqProofs only [go_sem, Nat.reduceBEq, Nat.reduceAdd, Nat.reduceLeDiff, Nat.reduceSub, Int.reduceEq, bitT_zero]⟩ ?_
    rintro i ⟨e, σ⟩ hi ⟨h0, h25, h26, h7, hs⟩ K hK
    simp only at h0 h25 h26 h7 hs
    simp -dsimp -implicitDefEqProofs only [go_sem, Nat.reduceBEq, Nat.reduceAdd, Nat.reduceLeDiff, Nat.reduceSub, Int.reduceEq, h0, h25, h26, h7, hs]
    refine ifB'.of (fun hlt => ?_) (fun hlt => ?_)
    · have hlt : i < m := by omega
      have hd : i / 8 < b.length := by omega
      have e7 : i % 8 < 8 := by omega
      obtain ⟨x, hx⟩ : ∃ x, (bitT b m i)[i]? = some x := ⟨_, List.getElem?_eq_getElem (by rw [bitT_length]; exact hlt)⟩
      simp -dsimp -implicitDefEqProofs only [go_sem, Nat.reduceBEq, Nat.reduceAdd, Nat.reduceLeDiff, Nat.reduceSub, Int.reduceEq, h0, h25, h26, h7, hs, tdiv8 (show i < 4611686018427387904 by omega), bytesA_at hd, tmod8', u8_shr (b[i / 8]'hd) (i % 8) e7, bit_eq' hd, bitT_length, boolA_at' hx]
      repeat with_reducible refine ask.of (by omega) ?_
      refine hK _ hlt ?_
      simp -dsimp -implicitDefEqProofs only [go_sem, Nat.reduceBEq, Nat.reduceAdd, Nat.reduceLeDiff, Nat.reduceSub, Int.reduceEq, h0, h25, h26, h7, hs, wrap_succ (show i < 4611686018427387904 by omega), u8_and1 _ (show b[i / 8].toNat / 2 ^ (i % 8) < 256 from Nat.lt_of_le_of_lt (Nat.div_le_self _ _) (UInt8.toNat_lt _)), bit_eq' hd, bitT_set b hlt]
    · obtain rfl : i = m := by omega
      rw [bitT_full] at hs
      simp -dsimp -implicitDefEqProofs only [go_sem, Nat.reduceBEq, Nat.reduceAdd, Nat.reduceLeDiff, Nat.reduceSub, Int.reduceEq, h0, h25, h26, h7, hs]
      refine CallE.of (c_iPackBits (bitsB b i) (by rw [bitsB_length]; omega)) (by rintro r rfl; (repeat' first | exact trivial | exact pure_rowB _ | exact pure_rowO _ | exact pure_rowI _ | exact pure_rowBB _ | exact pure_rowPk _ _ | exact pure_rowSn _ _ | exact pure_rowFd _ _ | exact pure_rowBBB _ | exact pure_rowCl _ _ | refine And.intro ?_ ?_)) (by simp -dsimp -implicitDefEqProofs only [go_sem, Nat.reduceBEq, Nat.reduceAdd, Nat.reduceLeDiff, Nat.reduceSub, Int.reduceEq, h0, h25, h26, h7, hs]) ?_
      rintro r rfl
      simp -dsimp -implicitDefEqProofs only [go_sem, Nat.reduceBEq, Nat.reduceAdd, Nat.reduceLeDiff, Nat.reduceSub, Int.reduceEq, h0, h25, h26, h7, hs]
      refine CallE.of (c_bytesEqual (packB (bitsB b i)) b (by rw [packB_length, pw h2]; omega) (by omega)) (by rintro r rfl; (repeat' first | exact trivial | exact pure_rowB _ | exact pure_rowO _ | exact pure_rowI _ | exact pure_rowBB _ | exact pure_rowPk _ _ | exact pure_rowSn _ _ | exact pure_rowFd _ _ | exact pure_rowBBB _ | exact pure_rowCl _ _ | refine And.intro ?_ ?_)) (by simp -dsimp -implicitDefEqProofs only [go_sem, Nat.reduceBEq, Nat.reduceAdd, Nat.reduceLeDiff, Nat.reduceSub, Int.reduceEq, h0, h25, h26, h7, hs]) ?_
      rintro r rfl
      simp -dsimp -implicitDefEqProofs only [go_sem, Nat.reduceBEq, Nat.reduceAdd, Nat.reduceLeDiff, Nat.reduceSub, Int.reduceEq, h0, h25, h26, h7, hs]
      refine ifB'.of (fun hp => ?_) (fun hp => ?_)
      · simp -dsimp -implicitDefEqProofs only [go_sem, Nat.reduceBEq, Nat.reduceAdd, Nat.reduceLeDiff, Nat.reduceSub, Int.reduceEq, h0, h25, h26, h7, hs]
        rw [fin h2, if_pos ((pack_unpack b i (pw h2)).1 hp)]
        rfl
      · simp -dsimp -implicitDefEqProofs only [go_sem, Nat.reduceBEq, Nat.reduceAdd, Nat.reduceLeDiff, Nat.reduceSub, Int.reduceEq, h0, h25, h26, h7, hs]
        rw [fin h2, if_neg (fun hq => hp ((pack_unpack b i (pw h2)).2 hq))]
        rfl
end Go.Ev
