/- Contracts: bits in bytes. -/
import Derived.Test.YtijmbcnhkdhkeaaLa
set_option linter.unusedSimpArgs false
set_option linter.unusedVariables false
namespace Go.Ev
open Go Go.RowKit Go.Proofs
def bitAt (l : List Bool) (j : Nat) : Nat := (l[j]?.getD false).toNat
def hvS (l : List Bool) (b : Nat) : Nat → Nat
  | 0 => 0
  | m + 1 => hvS l b m * 2 + bitAt l (b + (7 - m))
def packN (l : List Bool) : Nat := (l.length + 7) / 8
def packB (l : List Bool) : List UInt8 := (List.range (packN l)).map fun b => UInt8.ofNat (hvS l (8 * b) 8)
theorem packB_length (l : List Bool) : (packB l).length = packN l := by simp [packB]
theorem bitAt_le (l : List Bool) (j : Nat) : bitAt l j ≤ 1 := by unfold bitAt; cases l[j]?.getD false <;> decide
theorem hvS_lt (l : List Bool) (b : Nat) : ∀ m, hvS l b m < 2 ^ m
  | 0 => by simp [hvS]
  | m + 1 => by
    have := hvS_lt l b m
    have := bitAt_le l (b + (7 - m))
    rw [hvS, Nat.pow_succ]; omega
theorem hvS_256 (l : List Bool) (b m : Nat) (hm : m ≤ 8) : hvS l b m < 256 := Nat.lt_of_lt_of_le (hvS_lt l b m) (Nat.pow_le_pow_right (by decide) hm)
theorem c_sPackBits (bs : List Bool) (hb : bs.length ≤ 1048576) : Meets Try.prog 125 [rowO bs] (fun r => r = rowB (packB bs)) := by
  refine Meets.intro mixed (hint [(3, 125)]) Try.func125 rfl (by decide) res_125 rty_125 (by kernel_rfl) ?_; 
  simp -dsimp -implicitDefEqProofs only [go_sem, Nat.reduceBEq, Nat.reduceAdd, Nat.reduceLeDiff, Nat.reduceSub, Int.reduceEq]
  refine LoopE.cnt (packN bs) (fun i s => s.env 0 = .rd .ent 4 1 (ra boolC bs) ∧ s.env 4 = .v (.int .i64 ((8 * i : Nat) : Int)) ∧ s.env 3 = .ref [3] ∧ s.σ [3] = some (.row 5 1 (bytesA ((List.range i).map fun b => UInt8.ofNat (hvS bs (8 * b) 8))))) ⟨by simp -dsimp -implicitDefEqProofs only [go_sem, Nat.reduceBEq, Nat.reduceAdd, Nat.reduceLeDiff, Nat.reduceSub, Int.reduceEq, initE], by simp -dsimp -implicitDefEqProofs only [go_sem, Nat.reduceBEq, Nat.reduceAdd, Nat.reduceLeDiff, Nat.reduceSub, Int.reduceEq] <;> simp, by simp -dsimp -implicitDefEqProofs only [go_sem, Nat.reduceBEq, Nat.reduceAdd, Nat.reduceLeDiff, Nat.reduceSub, Int.reduceEq], by simp -dsimp -implicitDefEqProofs only [go_sem, Nat.reduceBEq, Nat.reduceAdd, Nat.reduceLeDiff, Nat.reduceSub, Int.reduceEq]; rfl⟩ ?_
  rintro i ⟨e, σ⟩ hi ⟨h0, h4, h3, hs⟩ K hK
  simp only at h0 h4 h3 hs
  simp -dsimp -implicitDefEqProofs only [go_sem, Nat.reduceBEq, Nat.reduceAdd, Nat.reduceLeDiff, Nat.reduceSub, Int.reduceEq, h0, h4, h3, hs]
  have hN : i < packN bs ↔ 8 * i < bs.length := by unfold packN; omega
  refine ifB'.of (fun hlt => ?_) (fun hlt => ?_)
  · have hlt : 8 * i < bs.length := by omega
    simp -dsimp -implicitDefEqProofs only [go_sem, Nat.reduceBEq, Nat.reduceAdd, Nat.reduceLeDiff, Nat.reduceSub, Int.reduceEq, h0, h4, h3, hs]
    refine LoopE.cnt 8 (fun m s => s.env 0 = .rd .ent 4 1 (ra boolC bs) ∧ s.env 4 = .v (.int .i64 ((8 * i : Nat) : Int)) ∧ s.env 3 = .ref [3] ∧ s.σ [3] = some (.row 5 1 (bytesA ((List.range i).map fun b => UInt8.ofNat (hvS bs (8 * b) 8)))) ∧ s.env 5 = .v (.int .i64 (hvS bs (8 * i) m)) ∧ s.env 6 = .v (.int .i64 (7 - (m : Int)))) ⟨by simp -dsimp -implicitDefEqProofs only [go_sem, Nat.reduceBEq, Nat.reduceAdd, Nat.reduceLeDiff, Nat.reduceSub, Int.reduceEq, h0, h4, h3, hs], by simp -dsimp -implicitDefEqProofs only [go_sem, Nat.reduceBEq, Nat.reduceAdd, Nat.reduceLeDiff, Nat.reduceSub, Int.reduceEq, h0, h4, h3, hs], by simp -dsimp -implicitDefEqProofs only [go_sem, Nat.reduceBEq, Nat.reduceAdd, Nat.reduceLeDiff, Nat.reduceSub, Int.reduceEq, h0, h4, h3, hs], by simp -dsimp -implicitDefEqProofs only [go_sem, Nat.reduceBEq, Nat.reduceAdd, Nat.reduceLeDiff, Nat.reduceSub, Int.reduceEq, h0, h4, h3, hs], by simp -dsimp -implicitDefEqProofs only [go_sem, Nat.reduceBEq, Nat.reduceAdd, Nat.reduceLeDiff, Nat.reduceSub, Int.reduceEq, h0, h4, h3, hs] <;> simp [hvS], by simp -dsimp -implicitDefEqProofs only [go_sem, Nat.reduceBEq, Nat.reduceAdd, Nat.reduceLeDiff, Nat.reduceSub, Int.reduceEq, h0, h4, h3, hs] <;> simp⟩ ?_
    rintro m ⟨e, σ⟩ hm ⟨h0, h4, h3, hs, h5, h6⟩ K' hK'
    simp only at h0 h4 h3 hs h5 h6
    simp -dsimp -implicitDefEqProofs only [go_sem, Nat.reduceBEq, Nat.reduceAdd, Nat.reduceLeDiff, Nat.reduceSub, Int.reduceEq, h0, h4, h3, hs, h5, h6]
    refine ifB'.of (fun hm8 => ?_) (fun hm8 => ?_)
    · have hv := hvS_256 bs (8 * i) m hm
      have e1 : IntKind.i64.wrap ((hvS bs (8 * i) m : Int) * 2) = ((hvS bs (8 * i) m * 2 : Nat) : Int) := by rw [wrap_i64_of (by omega) (by omega)]; omega
      have e2 : IntKind.i64.wrap (((8 * i : Nat) : Int) + (7 - (m : Int))) = ((8 * i + (7 - m) : Nat) : Int) := by rw [wrap_i64_of (by omega) (by omega)]; omega
      have e3 : IntKind.i64.wrap (7 - (m : Int) - 1) = 7 - ((m + 1 : Nat) : Int) := by rw [wrap_i64_of (by omega) (by omega)]; omega
      simp -dsimp -implicitDefEqProofs only [go_sem, Nat.reduceBEq, Nat.reduceAdd, Nat.reduceLeDiff, Nat.reduceSub, Int.reduceEq, h0, h4, h3, hs, h5, h6, e1, e2]
      refine ifB'.of (fun hin => ?_) (fun hin => ?_)
      · have hin : 8 * i + (7 - m) < bs.length := by omega
        simp -dsimp -implicitDefEqProofs only [go_sem, Nat.reduceBEq, Nat.reduceAdd, Nat.reduceLeDiff, Nat.reduceSub, Int.reduceEq, h0, h4, h3, hs, h5, h6, e1, e2, boolA_at hin]
        repeat with_reducible refine ask.of (by omega) ?_
        cases hb : bs[8 * i + (7 - m)]
        · simp -dsimp -implicitDefEqProofs only [go_sem, Nat.reduceBEq, Nat.reduceAdd, Nat.reduceLeDiff, Nat.reduceSub, Int.reduceEq, h0, h4, h3, hs, h5, h6, e1, e2, hb]
          refine hK' _ (by omega) ?_
          simp -dsimp -implicitDefEqProofs only [go_sem, Nat.reduceBEq, Nat.reduceAdd, Nat.reduceLeDiff, Nat.reduceSub, Int.reduceEq, h0, h4, h3, hs, h5, h6, e3]
          simp [hvS, bitAt, hin, hb]
        · simp -dsimp -implicitDefEqProofs only [go_sem, Nat.reduceBEq, Nat.reduceAdd, Nat.reduceLeDiff, Nat.reduceSub, Int.reduceEq, h0, h4, h3, hs, h5, h6, e1, e2, hb]
          refine hK' _ (by omega) ?_
          simp -dsimp -implicitDefEqProofs only [go_sem, Nat.reduceBEq, Nat.reduceAdd, Nat.reduceLeDiff, Nat.reduceSub, Int.reduceEq, h0, h4, h3, hs, h5, h6, e3, wrap_succ (show hvS bs (8 * i) m * 2 < 4611686018427387904 by omega)]
          simp [hvS, bitAt, hin, hb]
      · simp -dsimp -implicitDefEqProofs only [go_sem, Nat.reduceBEq, Nat.reduceAdd, Nat.reduceLeDiff, Nat.reduceSub, Int.reduceEq, h0, h4, h3, hs, h5, h6, e1, e2]
        refine hK' _ (by omega) ?_
        simp -dsimp -implicitDefEqProofs only [go_sem, Nat.reduceBEq, Nat.reduceAdd, Nat.reduceLeDiff, Nat.reduceSub, Int.reduceEq, h0, h4, h3, hs, h5, h6, e3]
        simp [hvS, bitAt, show bs[8 * i + (7 - m)]? = none by simp; omega]
    · have : m = 8 := by omega
      subst this
      simp -dsimp -implicitDefEqProofs only [go_sem, Nat.reduceBEq, Nat.reduceAdd, Nat.reduceLeDiff, Nat.reduceSub, Int.reduceEq, h0, h4, h3, hs, h5, h6, u8_of_nat]
      repeat with_reducible refine ask.of (by omega) ?_
      have e4 : IntKind.i64.wrap (((8 * i : Nat) : Int) + 8) = ((8 * (i + 1) : Nat) : Int) := by rw [wrap_i64_of (by omega) (by omega)]; omega
      refine hK _ (hN.2 hlt) ?_
      simp -dsimp -implicitDefEqProofs only [go_sem, Nat.reduceBEq, Nat.reduceAdd, Nat.reduceLeDiff, Nat.reduceSub, Int.reduceEq, h0, h4, h3, hs, h5, h6, e4, snoc_range (fun b => UInt8.ofNat (hvS bs (8 * b) 8)) i rfl]
  · simp -dsimp -implicitDefEqProofs only [go_sem, Nat.reduceBEq, Nat.reduceAdd, Nat.reduceLeDiff, Nat.reduceSub, Int.reduceEq, h0, h4, h3, hs]
    have : i = packN bs := by omega
    subst this
    rfl
theorem bit_or (b : UInt8) (k : Nat) (hk : k < 8) : IntKind.u8.wrap (((BitVec.ofInt IntKind.u8.bits (b.toNat : Int) ||| BitVec.ofInt IntKind.u8.bits (IntKind.u8.wrap (1 * 2 ^ min k 8))).toNat : Nat) : Int) = ((b ||| UInt8.ofNat (2 ^ k)).toNat : Int) := by
  have bv8 : ∀ a : UInt8, BitVec.ofInt 8 (a.toNat : Int) = a.toBitVec := fun a => by apply BitVec.eq_of_toNat_eq; simp
  have e : IntKind.u8.wrap (1 * 2 ^ min k 8) = ((UInt8.ofNat (2 ^ k)).toNat : Int) := by
    match k, hk with
    | 0, _ => rfl
    | 1, _ => rfl
    | 2, _ => rfl
    | 3, _ => rfl
    | 4, _ => rfl
    | 5, _ => rfl
    | 6, _ => rfl
    | 7, _ => rfl
  rw [e]
  show IntKind.u8.wrap (((BitVec.ofInt 8 (b.toNat : Int) ||| BitVec.ofInt 8 ((UInt8.ofNat (2 ^ k)).toNat : Int)).toNat : Nat) : Int) = _
  rw [bv8, bv8, wrap_u8, Nat.mod_eq_of_lt (BitVec.isLt _)]
  rfl
def h8 (x0 x1 x2 x3 x4 x5 x6 x7 : Bool) : Nat := (((((((0 * 2 + x7.toNat) * 2 + x6.toNat) * 2 + x5.toNat) * 2 + x4.toNat) * 2 + x3.toNat) * 2 + x2.toNat) * 2 + x1.toNat) * 2 + x0.toNat
/-- The bits of a byte, one more of them known. -/
theorem bits_or : ∀ (x0 x1 x2 x3 x4 x5 x6 x7 : Bool), (x0 = false → UInt8.ofNat (h8 x0 x1 x2 x3 x4 x5 x6 x7) ||| 1 = UInt8.ofNat (h8 true x1 x2 x3 x4 x5 x6 x7)) ∧ (x1 = false → UInt8.ofNat (h8 x0 x1 x2 x3 x4 x5 x6 x7) ||| 2 = UInt8.ofNat (h8 x0 true x2 x3 x4 x5 x6 x7)) ∧ (x2 = false → UInt8.ofNat (h8 x0 x1 x2 x3 x4 x5 x6 x7) ||| 4 = UInt8.ofNat (h8 x0 x1 true x3 x4 x5 x6 x7)) ∧ (x3 = false → UInt8.ofNat (h8 x0 x1 x2 x3 x4 x5 x6 x7) ||| 8 = UInt8.ofNat (h8 x0 x1 x2 true x4 x5 x6 x7)) ∧ (x4 = false → UInt8.ofNat (h8 x0 x1 x2 x3 x4 x5 x6 x7) ||| 16 = UInt8.ofNat (h8 x0 x1 x2 x3 true x5 x6 x7)) ∧ (x5 = false → UInt8.ofNat (h8 x0 x1 x2 x3 x4 x5 x6 x7) ||| 32 = UInt8.ofNat (h8 x0 x1 x2 x3 x4 true x6 x7)) ∧ (x6 = false → UInt8.ofNat (h8 x0 x1 x2 x3 x4 x5 x6 x7) ||| 64 = UInt8.ofNat (h8 x0 x1 x2 x3 x4 x5 true x7)) ∧ (x7 = false → UInt8.ofNat (h8 x0 x1 x2 x3 x4 x5 x6 x7) ||| 128 = UInt8.ofNat (h8 x0 x1 x2 x3 x4 x5 x6 true)) := by decide
theorem bits_set (f g : Nat → Bool) (b k : Nat) (hk : k < 8) (hg : ∀ j, j ≠ 8 * b + k → g j = f j) (h0 : f (8 * b + k) = false) (h1 : g (8 * b + k) = true) :
    UInt8.ofNat (h8 (f (8 * b + 0)) (f (8 * b + 1)) (f (8 * b + 2)) (f (8 * b + 3)) (f (8 * b + 4)) (f (8 * b + 5)) (f (8 * b + 6)) (f (8 * b + 7))) ||| UInt8.ofNat (2 ^ k) = UInt8.ofNat (h8 (g (8 * b + 0)) (g (8 * b + 1)) (g (8 * b + 2)) (g (8 * b + 3)) (g (8 * b + 4)) (g (8 * b + 5)) (g (8 * b + 6)) (g (8 * b + 7))) := match k, hk with
  | 0, _ => by rw [hg (8 * b + 1) (by omega), hg (8 * b + 2) (by omega), hg (8 * b + 3) (by omega), hg (8 * b + 4) (by omega), hg (8 * b + 5) (by omega), hg (8 * b + 6) (by omega), hg (8 * b + 7) (by omega), h1]; exact (bits_or (f (8 * b + 0)) (f (8 * b + 1)) (f (8 * b + 2)) (f (8 * b + 3)) (f (8 * b + 4)) (f (8 * b + 5)) (f (8 * b + 6)) (f (8 * b + 7))).1 h0
  | 1, _ => by rw [hg (8 * b + 0) (by omega), hg (8 * b + 2) (by omega), hg (8 * b + 3) (by omega), hg (8 * b + 4) (by omega), hg (8 * b + 5) (by omega), hg (8 * b + 6) (by omega), hg (8 * b + 7) (by omega), h1]; exact (bits_or (f (8 * b + 0)) (f (8 * b + 1)) (f (8 * b + 2)) (f (8 * b + 3)) (f (8 * b + 4)) (f (8 * b + 5)) (f (8 * b + 6)) (f (8 * b + 7))).2.1 h0
  | 2, _ => by rw [hg (8 * b + 0) (by omega), hg (8 * b + 1) (by omega), hg (8 * b + 3) (by omega), hg (8 * b + 4) (by omega), hg (8 * b + 5) (by omega), hg (8 * b + 6) (by omega), hg (8 * b + 7) (by omega), h1]; exact (bits_or (f (8 * b + 0)) (f (8 * b + 1)) (f (8 * b + 2)) (f (8 * b + 3)) (f (8 * b + 4)) (f (8 * b + 5)) (f (8 * b + 6)) (f (8 * b + 7))).2.2.1 h0
  | 3, _ => by rw [hg (8 * b + 0) (by omega), hg (8 * b + 1) (by omega), hg (8 * b + 2) (by omega), hg (8 * b + 4) (by omega), hg (8 * b + 5) (by omega), hg (8 * b + 6) (by omega), hg (8 * b + 7) (by omega), h1]; exact (bits_or (f (8 * b + 0)) (f (8 * b + 1)) (f (8 * b + 2)) (f (8 * b + 3)) (f (8 * b + 4)) (f (8 * b + 5)) (f (8 * b + 6)) (f (8 * b + 7))).2.2.2.1 h0
  | 4, _ => by rw [hg (8 * b + 0) (by omega), hg (8 * b + 1) (by omega), hg (8 * b + 2) (by omega), hg (8 * b + 3) (by omega), hg (8 * b + 5) (by omega), hg (8 * b + 6) (by omega), hg (8 * b + 7) (by omega), h1]; exact (bits_or (f (8 * b + 0)) (f (8 * b + 1)) (f (8 * b + 2)) (f (8 * b + 3)) (f (8 * b + 4)) (f (8 * b + 5)) (f (8 * b + 6)) (f (8 * b + 7))).2.2.2.2.1 h0
  | 5, _ => by rw [hg (8 * b + 0) (by omega), hg (8 * b + 1) (by omega), hg (8 * b + 2) (by omega), hg (8 * b + 3) (by omega), hg (8 * b + 4) (by omega), hg (8 * b + 6) (by omega), hg (8 * b + 7) (by omega), h1]; exact (bits_or (f (8 * b + 0)) (f (8 * b + 1)) (f (8 * b + 2)) (f (8 * b + 3)) (f (8 * b + 4)) (f (8 * b + 5)) (f (8 * b + 6)) (f (8 * b + 7))).2.2.2.2.2.1 h0
  | 6, _ => by rw [hg (8 * b + 0) (by omega), hg (8 * b + 1) (by omega), hg (8 * b + 2) (by omega), hg (8 * b + 3) (by omega), hg (8 * b + 4) (by omega), hg (8 * b + 5) (by omega), hg (8 * b + 7) (by omega), h1]; exact (bits_or (f (8 * b + 0)) (f (8 * b + 1)) (f (8 * b + 2)) (f (8 * b + 3)) (f (8 * b + 4)) (f (8 * b + 5)) (f (8 * b + 6)) (f (8 * b + 7))).2.2.2.2.2.2.1 h0
  | 7, _ => by rw [hg (8 * b + 0) (by omega), hg (8 * b + 1) (by omega), hg (8 * b + 2) (by omega), hg (8 * b + 3) (by omega), hg (8 * b + 4) (by omega), hg (8 * b + 5) (by omega), hg (8 * b + 6) (by omega), h1]; exact (bits_or (f (8 * b + 0)) (f (8 * b + 1)) (f (8 * b + 2)) (f (8 * b + 3)) (f (8 * b + 4)) (f (8 * b + 5)) (f (8 * b + 6)) (f (8 * b + 7))).2.2.2.2.2.2.2 h0
def packT (l : List Bool) (i : Nat) : List UInt8 := (List.range (packN l)).map fun b => UInt8.ofNat (hvS (l.take i) (8 * b) 8)
theorem packT_length (l : List Bool) (i : Nat) : (packT l i).length = packN l := by simp [packT]
theorem packT_zero (l : List Bool) : packT l 0 = List.replicate (packN l) 0 := by
  apply List.ext_getElem (by simp [packT])
  intro i h1 h2
  simp [packT, hvS, bitAt]
theorem packT_full (l : List Bool) : packT l l.length = packB l := by simp [packT, packB]
theorem packT_false (l : List Bool) {i : Nat} (h : i < l.length) (hb : l[i] = false) : packT l (i + 1) = packT l i := by
  have e : ∀ j, bitAt (l.take (i + 1)) j = bitAt (l.take i) j := fun j => by
    unfold bitAt
    rw [List.getElem?_take, List.getElem?_take]
    by_cases h1 : j < i
    · rw [if_pos h1, if_pos (by omega)]
    · rw [if_neg h1]
      by_cases h2 : j = i
      · subst h2; simp [h, hb]
      · rw [if_neg (by omega)]
  have e2 : ∀ b m, hvS (l.take (i + 1)) b m = hvS (l.take i) b m := fun b m => by
    induction m with
    | zero => rfl
    | succ m ih => rw [hvS, hvS, ih, e]
  simp [packT, e2]
theorem packT_true (l : List Bool) {i : Nat} (h : i < l.length) (hb : l[i] = true) {x : UInt8} (hx : (packT l i)[i / 8]? = some x) : (packT l i).set (i / 8) (x ||| UInt8.ofNat (2 ^ (i % 8))) = packT l (i + 1) := by
  have hN : i / 8 < packN l := by unfold packN; omega
  have hx : x = UInt8.ofNat (hvS (l.take i) (8 * (i / 8)) 8) := by simpa [packT, hN, eq_comm] using hx
  have e : ∀ j, j ≠ i → (l.take (i + 1))[j]?.getD false = (l.take i)[j]?.getD false := fun j hj => by
    rw [List.getElem?_take, List.getElem?_take]
    by_cases h1 : j < i
    · rw [if_pos h1, if_pos (by omega)]
    · rw [if_neg h1, if_neg (by omega)]
  have ei : 8 * (i / 8) + i % 8 = i := by omega
  apply List.ext_getElem (by simp [packT])
  intro j h1 h2
  rw [List.getElem_set]
  split
  · rename_i hj
    subst hj
    have := bits_set (fun j => (l.take i)[j]?.getD false) (fun j => (l.take (i + 1))[j]?.getD false) (i / 8) (i % 8) (by omega) (fun j hj => e j (by omega)) (by show (l.take i)[8 * (i / 8) + i % 8]?.getD false = false; rw [ei, List.getElem?_take, if_neg (by omega)]; rfl) (by show (l.take (i + 1))[8 * (i / 8) + i % 8]?.getD false = true; rw [ei]; simp [h, hb])
    rw [hx]
    simp only [packT, List.getElem_map, List.getElem_range]
    exact this
  · rename_i hj
    have e2 : ∀ m, m ≤ 8 → hvS (l.take (i + 1)) (8 * j) m = hvS (l.take i) (8 * j) m := fun m hm => by
      induction m with
      | zero => rfl
      | succ m ih =>
        rw [hvS, hvS, ih (by omega)]
        congr 1
        unfold bitAt
        rw [e _ (by omega)]
    simp [packT, e2 8 (by omega)]
theorem c_iPackBits (bs : List Bool) (hb : bs.length ≤ 8388608) : Meets Try.prog 130 [rowO bs] (fun r => r = rowB (packB bs)) := by
  have eN : IntKind.i64.wrap ((IntKind.i64.wrap ((bs.length : Int) + 7)).tdiv 8) = ((packN bs : Nat) : Int) := by
    rw [wrap_i64_of (n := (bs.length : Int) + 7) (by omega) (by omega), Int.tdiv_eq_ediv_of_nonneg (by omega), wrap_i64_of (by omega) (by omega)]
    unfold packN; omega
  refine Meets.intro mixed (hint [(2, 125)]) Try.func130 rfl (by decide) res_130 rty_130 (by kernel_rfl) ?_; 
  simp -dsimp -implicitDefEqProofs only [go_sem, Nat.reduceBEq, Nat.reduceAdd, Nat.reduceLeDiff, Nat.reduceSub, Int.reduceEq, eN]
  refine ask.of (by unfold packN; omega) ?_
  refine LoopE.cnt bs.length (fun i s => s.env 11 = .rd .ent 4 1 (ra boolC bs) ∧ s.env 12 = .v (.int .i64 bs.length) ∧ s.env 13 = .v (.int .i64 i) ∧ s.env 3 = .ref [10] ∧ s.σ [10] = some (.row 5 1 (bytesA (packT bs i)))) ⟨by simp -dsimp -implicitDefEqProofs only [go_sem, Nat.reduceBEq, Nat.reduceAdd, Nat.reduceLeDiff, Nat.reduceSub, Int.reduceEq, initE], by simp -dsimp -implicitDefEqProofs only [go_sem, Nat.reduceBEq, Nat.reduceAdd, Nat.reduceLeDiff, Nat.reduceSub, Int.reduceEq, initE], by simp -dsimp -implicitDefEqProofs only [go_sem, Nat.reduceBEq, Nat.reduceAdd, Nat.reduceLeDiff, Nat.reduceSub, Int.reduceEq] <;> simp, by simp -dsimp -implicitDefEqProofs only [go_sem, Nat.reduceBEq, Nat.reduceAdd, Nat.reduceLeDiff, Nat.reduceSub, Int.reduceEq], by simp -dsimp -implicitDefEqProofs only [go_sem, Nat.reduceBEq, Nat.reduceAdd, Nat.reduceLeDiff, Nat.reduceSub, Int.reduceEq, packT_zero]⟩ ?_
  rintro i ⟨e, σ⟩ hi ⟨h11, h12, h13, h3, hs⟩ K hK
  simp only at h11 h12 h13 h3 hs
  simp -dsimp -implicitDefEqProofs only [go_sem, Nat.reduceBEq, Nat.reduceAdd, Nat.reduceLeDiff, Nat.reduceSub, Int.reduceEq, h11, h12, h13, h3, hs]
  refine ifB'.of (fun hlt => ?_) (fun hlt => ?_)
  · have hlt : i < bs.length := by omega
    simp -dsimp -implicitDefEqProofs only [go_sem, Nat.reduceBEq, Nat.reduceAdd, Nat.reduceLeDiff, Nat.reduceSub, Int.reduceEq, h11, h12, h13, h3, hs, boolA_at hlt]
    repeat with_reducible refine ask.of (by omega) ?_
    cases hb : bs[i]
    · simp -dsimp -implicitDefEqProofs only [go_sem, Nat.reduceBEq, Nat.reduceAdd, Nat.reduceLeDiff, Nat.reduceSub, Int.reduceEq, h11, h12, h13, h3, hs, hb]
      refine hK _ hlt ?_
      simp -dsimp -implicitDefEqProofs only [go_sem, Nat.reduceBEq, Nat.reduceAdd, Nat.reduceLeDiff, Nat.reduceSub, Int.reduceEq, h11, h12, h13, h3, hs, wrap_succ (show i < 4611686018427387904 by omega), packT_false bs hlt hb]
    · have e1 : IntKind.i64.wrap ((i : Int).tdiv 8) = ((i / 8 : Nat) : Int) := by rw [Int.tdiv_eq_ediv_of_nonneg (by omega), wrap_i64_of (by omega) (by omega)]; omega
      have e2 : (i : Int).tmod 8 = ((i % 8 : Nat) : Int) := rfl
      have hi8 : i / 8 < packN bs := by unfold packN; omega
      obtain ⟨x, hx⟩ : ∃ x, (packT bs i)[i / 8]? = some x := ⟨_, List.getElem?_eq_getElem (by rw [packT_length]; exact hi8)⟩
      simp -dsimp -implicitDefEqProofs only [go_sem, Nat.reduceBEq, Nat.reduceAdd, Nat.reduceLeDiff, Nat.reduceSub, Int.reduceEq, h11, h12, h13, h3, hs, hb, e1, e2, packT_length, bytesA_at' hx]
      repeat with_reducible refine ask.of (by omega) ?_
      refine hK _ hlt ?_
      simp -dsimp -implicitDefEqProofs only [go_sem, Nat.reduceBEq, Nat.reduceAdd, Nat.reduceLeDiff, Nat.reduceSub, Int.reduceEq, h11, h12, h13, h3, hs, wrap_succ (show i < 4611686018427387904 by omega), bit_or x (i % 8) (by omega), packT_true bs hlt hb hx]
  · have : i = bs.length := by omega
    subst this
    simp -dsimp -implicitDefEqProofs only [go_sem, Nat.reduceBEq, Nat.reduceAdd, Nat.reduceLeDiff, Nat.reduceSub, Int.reduceEq, h11, h12, h13, h3, hs, packT_full]
end Go.Ev
