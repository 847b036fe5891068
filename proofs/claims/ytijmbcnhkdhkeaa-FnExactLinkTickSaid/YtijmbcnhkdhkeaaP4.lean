/- Contracts: bits out of bytes, the other way. -/
import Derived.Test.YtijmbcnhkdhkeaaP3
set_option linter.unusedSimpArgs false
set_option linter.unusedVariables false
namespace Go.Ev
open Go Go.RowKit Go.Proofs
theorem c_bytesEqual (a b : List UInt8) (ha : a.length ≤ 140737488355328) (hb : b.length ≤ 140737488355328) : Meets Try.prog 105 [rowB a, rowB b] (fun r => r = .v (.bool (decide (a = b)))) := by
  refine Meets.intro mixed (hint []) Try.func105 rfl (by decide) res_105 rty_105 (by kernel_rfl) ?_; 
  simp -dsimp -implicitDefEqProofs only [go_sem, Nat.reduceBEq, Nat.reduceAdd, Nat.reduceLeDiff, Nat.reduceSub, Int.reduceEq, initE]
  exact decide_eq_decide.2 ⟨fun h => by simpa using h, fun h => by rw [h]⟩
def bitT (b : List UInt8) (n i : Nat) : List Bool := (List.range n).map fun j => decide (j < i) && bitB b j
theorem bitT_length (b : List UInt8) (n i : Nat) : (bitT b n i).length = n := by simp [bitT]
theorem bitT_zero (b : List UInt8) (n : Nat) : bitT b n 0 = List.replicate n false := by
  apply List.ext_getElem (by simp [bitT])
  intro i h1 h2
  simp [bitT]
theorem bitT_full (b : List UInt8) (n : Nat) : bitT b n n = bitsB b n := by
  apply List.ext_getElem (by simp [bitT, bitsB])
  intro i h1 h2
  simp [bitT, bitsB]
  simp [bitT] at h1
  omega
theorem bitT_set (b : List UInt8) {n i : Nat} (h : i < n) : (bitT b n i).set i (bitB b i) = bitT b n (i + 1) := by
  apply List.ext_getElem (by simp [bitT])
  intro j h1 h2
  rw [List.getElem_set]
  split
  · rename_i hj; subst hj; simp [bitT]
  · rename_i hj
    simp only [bitT, List.getElem_map, List.getElem_range]
    congr 1
    exact decide_eq_decide.2 ⟨fun h => by omega, fun h => by omega⟩
theorem bitsB_get (b : List UInt8) (n j : Nat) : (bitsB b n)[j]?.getD false = (decide (j < n) && bitB b j) := by
  by_cases h : j < n
  · simp [bitsB, h]
  · simp [bitsB, h]
theorem bitAt_val (l : List Bool) (j : Nat) (x : Bool) (h : l[j]?.getD false = x) : bitAt l j = x.toNat := by rw [bitAt, h]
theorem hvS_bit (l : List Bool) (q k : Nat) (hk : k < 8) : bitOf (UInt8.ofNat (hvS l (8 * q) 8)) k = l[8 * q + k]?.getD false := by
  have e : (UInt8.ofNat (hvS l (8 * q) 8)).toNat = hvS l (8 * q) 8 := by
    have := hvS_256 l (8 * q) 8 (by omega)
    simp; omega
  have e2 : hvS l (8 * q) 8 / 2 ^ k % 2 = bitAt l (8 * q + k) := by
    simp only [hvS, Nat.sub_zero, Nat.add_zero]
    have h0 := bitAt_le l (8 * q)
    have h1 := bitAt_le l (8 * q + 1)
    have h2 := bitAt_le l (8 * q + 2)
    have h3 := bitAt_le l (8 * q + 3)
    have h4 := bitAt_le l (8 * q + 4)
    have h5 := bitAt_le l (8 * q + 5)
    have h6 := bitAt_le l (8 * q + 6)
    have h7 := bitAt_le l (8 * q + 7)
    match k, hk with
    | 0, _ => simp; omega
    | 1, _ => simp; omega
    | 2, _ => simp; omega
    | 3, _ => simp; omega
    | 4, _ => simp; omega
    | 5, _ => simp; omega
    | 6, _ => simp; omega
    | 7, _ => simp; omega
  unfold bitOf
  rw [e, e2]
  unfold bitAt
  cases l[8 * q + k]?.getD false <;> rfl
theorem bits_ext (c d : UInt8) (h : ∀ k, k < 8 → bitOf c k = bitOf d k) : c = d := by
  have e : ∀ k, k < 8 → c.toNat / 2 ^ k % 2 = d.toNat / 2 ^ k % 2 := fun k hk => by
    have := h k hk
    unfold bitOf at this
    have := decide_eq_decide.1 this
    omega
  have h0 := e 0 (by omega)
  have h1 := e 1 (by omega)
  have h2 := e 2 (by omega)
  have h3 := e 3 (by omega)
  have h4 := e 4 (by omega)
  have h5 := e 5 (by omega)
  have h6 := e 6 (by omega)
  have h7 := e 7 (by omega)
  have hc := c.toNat_lt
  have hd := d.toNat_lt
  simp at h0 h1 h2 h3 h4 h5 h6 h7
  exact UInt8.toNat_inj.1 (by omega)
theorem pack_unpack (b : List UInt8) (n : Nat) (h : packN (bitsB b n) = b.length) : packB (bitsB b n) = b ↔ padOk b n := by
  have hg : ∀ q (hq : q < b.length) k, k < 8 → bitOf ((packB (bitsB b n))[q]'(by rw [packB_length, h]; exact hq)) k = (decide (8 * q + k < n) && bitB b (8 * q + k)) := fun q hq k hk => by
    simp only [packB, List.getElem_map, List.getElem_range]
    rw [hvS_bit _ _ _ hk, bitsB_get]
  have hB : ∀ q (hq : q < b.length) k, k < 8 → bitB b (8 * q + k) = bitOf b[q] k := fun q hq k hk => by
    have e1 : (8 * q + k) / 8 = q := by omega
    have e2 : (8 * q + k) % 8 = k := by omega
    rw [bitB, e1, e2]; simp [hq]
  constructor
  · intro he j h1 h2
    have hq : j / 8 < b.length := by omega
    have := hg (j / 8) hq (j % 8) (by omega)
    simp only [he] at this
    rw [← hB _ hq _ (by omega), show 8 * (j / 8) + j % 8 = j by omega, decide_eq_false (by omega)] at this
    exact this
  · intro hp
    apply List.ext_getElem (by rw [packB_length, h])
    intro q h1 h2
    refine bits_ext _ _ fun k hk => ?_
    rw [hg q h2 k hk, ← hB q h2 k hk]
    by_cases hj : 8 * q + k < n
    · simp [hj]
    · simp [hj, hp (8 * q + k) (by omega) (by omega)]
end Go.Ev
