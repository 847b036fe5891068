/- FnExactCrc32: the sum by the table. -/
import Derived.Test.YtjmmdlifljlogaaC1
set_option linter.unusedSimpArgs false
set_option linter.unusedVariables false
namespace Go.Ev
open Go Go.RowKit Go.Proofs
def stB (x : BitVec 32) : BitVec 32 := (x >>> 1) ^^^ (if x.getLsbD 0 then 3988292384 else 0)
def stN : Nat → BitVec 32 → BitVec 32
  | 0, x => x
  | n + 1, x => stB (stN n x)
theorem crcStep_bv (c : UInt32) : (crcStep c).toBitVec = stB c.toBitVec := by
  have h1 : (c / 2).toBitVec = c.toBitVec >>> 1 := by
    apply BitVec.eq_of_toNat_eq
    simp [BitVec.toNat_ushiftRight, Nat.shiftRight_eq_div_pow]
  have h2 : c.toBitVec.getLsbD 0 = decide (c % 2 = 1) := by
    rw [BitVec.getLsbD, Nat.testBit_zero]
    congr 1
    rw [← UInt32.toNat_inj]
    simp
  unfold crcStep stB
  rw [h2]
  by_cases h : c % 2 = 1
  · simp only [h, if_true, decide_true]
    rw [UInt32.toBitVec_xor, h1]; rfl
  · simp only [h, if_false, decide_false]
    rw [h1]; simp
theorem crcN_bv (n : Nat) (c : UInt32) : (crcN n c).toBitVec = stN n c.toBitVec := by
  induction n with
  | zero => rfl
  | succ n ih => rw [crcN, crcStep_bv, ih]; rfl
theorem stB_xor (a b : BitVec 32) : stB (a ^^^ b) = stB a ^^^ stB b := by
  unfold stB
  rw [BitVec.ushiftRight_xor_distrib, BitVec.getLsbD_xor]
  cases a.getLsbD 0 <;> cases b.getLsbD 0 <;> simp
  · rw [BitVec.xor_assoc]
  · rw [BitVec.xor_assoc, BitVec.xor_assoc, BitVec.xor_comm (b >>> 1)]
  · rw [BitVec.xor_assoc, ← BitVec.xor_assoc (3988292384#32) (b >>> 1), BitVec.xor_comm (3988292384#32) (b >>> 1), BitVec.xor_assoc, BitVec.xor_self, BitVec.xor_zero]
theorem stN_xor (n : Nat) (a b : BitVec 32) : stN n (a ^^^ b) = stN n a ^^^ stN n b := by
  induction n with
  | zero => rfl
  | succ n ih => rw [stN, ih, stB_xor]; rfl
theorem stN_low (x : BitVec 32) (h : ∀ i, i < 8 → x.getLsbD i = false) : ∀ n, n ≤ 8 → stN n x = x >>> n
  | 0, _ => by simp [stN]
  | n + 1, hn => by
    rw [stN, stN_low x h n (by omega), stB]
    have : (x >>> n).getLsbD 0 = false := by rw [BitVec.getLsbD_ushiftRight]; simpa using h n (by omega)
    rw [this, ← BitVec.shiftRight_add]
    simp
theorem st8 (x : BitVec 32) : stN 8 x = (x >>> 8) ^^^ stN 8 (x &&& 255) := by
  have hx : x = (x &&& ~~~255#32) ^^^ (x &&& 255#32) := by
    apply BitVec.eq_of_getLsbD_eq
    intro i hi
    simp only [BitVec.getLsbD_xor, BitVec.getLsbD_and, BitVec.getLsbD_not, hi, decide_true, Bool.true_and]
    cases x.getLsbD i <;> cases (255#32).getLsbD i <;> rfl
  have h255 : ∀ i, (255#32).getLsbD i = decide (i < 8) := fun i => by
    have : (255#32).getLsbD i = (2 ^ 8 - 1).testBit i := rfl
    rw [this, Nat.testBit_two_pow_sub_one]
  have hlow : stN 8 (x &&& ~~~255#32) = (x &&& ~~~255#32) >>> 8 := stN_low _ (fun i hi => by
    rw [BitVec.getLsbD_and, BitVec.getLsbD_not, h255]; simp [hi]) 8 (Nat.le_refl _)
  have hs : (x &&& ~~~255#32) >>> 8 = x >>> 8 := by
    apply BitVec.eq_of_getLsbD_eq
    intro i hi
    rw [BitVec.getLsbD_ushiftRight, BitVec.getLsbD_ushiftRight, BitVec.getLsbD_and, BitVec.getLsbD_not, h255]
    by_cases h : 8 + i < 32
    · simp [h]
    · simp [BitVec.getLsbD_of_ge x (8 + i) (by omega)]
  conv => lhs; rw [hx]
  rw [stN_xor, hlow, hs]
  rfl
theorem crc_byte (c : UInt32) (b : UInt8) : crcN 8 (c ^^^ b.toUInt32) = (c >>> 8) ^^^ crcN 8 (UInt32.ofNat (c.toUInt8 ^^^ b).toNat) := by
  apply UInt32.toBitVec_inj.1
  rw [crcN_bv, UInt32.toBitVec_xor, st8, UInt32.toBitVec_xor, crcN_bv]
  have hb : b.toUInt32.toBitVec = b.toBitVec.setWidth 32 := rfl
  have h1 : (c.toBitVec ^^^ b.toUInt32.toBitVec) >>> 8 = (c >>> 8).toBitVec := by
    apply BitVec.eq_of_toNat_eq
    have hbl := b.toNat_lt
    rw [BitVec.ushiftRight_xor_distrib]
    have : b.toUInt32.toBitVec >>> 8 = 0#32 := by
      apply BitVec.eq_of_toNat_eq
      rw [BitVec.toNat_ushiftRight, Nat.shiftRight_eq_div_pow]
      have : b.toUInt32.toBitVec.toNat = b.toNat := by simp
      rw [this]; simp; omega
    rw [this, BitVec.xor_zero]
    rfl
  have h2 : (c.toBitVec ^^^ b.toUInt32.toBitVec) &&& 255 = (UInt32.ofNat (c.toUInt8 ^^^ b).toNat).toBitVec := by
    apply BitVec.eq_of_toNat_eq
    have h3 : (UInt32.ofNat (c.toUInt8 ^^^ b).toNat).toBitVec.toNat = (c.toUInt8 ^^^ b).toNat := by
      have := (c.toUInt8 ^^^ b).toNat_lt
      show (UInt32.ofNat (c.toUInt8 ^^^ b).toNat).toNat = _
      rw [UInt32.toNat_ofNat_of_lt' (by show _ < 4294967296; omega)]
    rw [h3, BitVec.toNat_and, BitVec.toNat_xor, UInt8.toNat_xor]
    have h4 : b.toUInt32.toBitVec.toNat = b.toNat := by simp
    have h5 : (255 : BitVec 32).toNat = 2 ^ 8 - 1 := rfl
    rw [h4, h5, Nat.and_two_pow_sub_one_eq_mod, Nat.xor_mod_two_pow]
    have h6 : c.toUInt8.toNat = c.toBitVec.toNat % 2 ^ 8 := by simp
    have hbl := b.toNat_lt
    rw [h6, Nat.mod_eq_of_lt (show b.toNat < 2 ^ 8 from hbl)]
  rw [h1, h2]
theorem u32_not (a : UInt32) : IntKind.u32.wrap ((BitVec.ofInt IntKind.u32.bits (if IntKind.u32.signed = true then -1 else IntKind.u32.max) ^^^ BitVec.ofInt IntKind.u32.bits (a.toNat : Int)).toNat : Int) = ((a ^^^ 4294967295).toNat : Int) := by
  have := u32_xor 4294967295 a
  rw [UInt32.xor_comm] at this
  exact this
theorem pureCs_w32s : ∀ l : List UInt32, pureCs (w32s l)
  | [] => trivial
  | c :: l => ⟨trivial, pureCs_w32s l⟩
theorem pure_w32s (l : List UInt32) : (AV.agg (w32s l)).pure := pureCs_w32s l
theorem w32s_opn (id : Id) : ∀ (l : List UInt32) (q : Nat), opnCs id q (w32s l) = (w32s l, [])
  | [], _ => rfl
  | c :: l, q => by
    have := w32s_opn id l (q + 1)
    show ((opnC id q (w32 c)).1 :: (opnCs id (q + 1) (w32s l)).1, (opnC id q (w32 c)).2 ++ (opnCs id (q + 1) (w32s l)).2) = _
    rw [this]; rfl
attribute [go_sem] w32s_opn
theorem crcTab_at {k : Nat} (h : k < 256) : (crcTab 256)[k]'(by rw [crcTab_length]; exact h) = crcN 8 (UInt32.ofNat k) := by simp [crcTab]
theorem m17 (bs : List UInt8) (hb : bs.length ≤ 1048576) : Meets Try.prog 17 [rowB bs] (fun r => r = w32 (crcU 4294967295 bs ^^^ 4294967295)) := by
  refine Meets.intro mixed (fun _ => 0) Try.func17 rfl (by decide) res_17 rty_17 (by kernel_rfl) ?_
  simp -dsimp -implicitDefEqProofs only [go_sem, Nat.reduceBEq]
  refine CallE.of m63 (by rintro r rfl; exact pure_w32s _) (by simp -dsimp -implicitDefEqProofs only [go_sem, Nat.reduceBEq]) ?_
  rintro r rfl
  simp -dsimp -implicitDefEqProofs only [go_sem, Nat.reduceBEq, List.length_replicate]
  refine ask.of (by decide) ?_
  refine LoopE.of (fun n s => ∃ i, i ≤ bs.length ∧ n = bs.length - i ∧ s.env 8 = .rd .ent 5 1 (bytesA bs) ∧ s.env 9 = .v (.int .i64 bs.length) ∧ s.env 10 = .v (.int .i64 i) ∧ s.env 3 = .ptr [3] 0 0 0 ∧
    s.env 4 = .v (.int .u32 (crcU 4294967295 (bs.take i)).toNat) ∧ s.σ [3] = some (.box 86 (w32s (crcTab 256)))) bs.length ⟨0, by simp, by simp, ?_, ?_, ?_, ?_, ?_, ?_⟩ ?_
  · simp -dsimp -implicitDefEqProofs only [go_sem, Nat.reduceBEq, initE]
  · simp -dsimp -implicitDefEqProofs only [go_sem, Nat.reduceBEq]
  · simp -dsimp -implicitDefEqProofs only [go_sem, Nat.reduceBEq]; simp
  · simp -dsimp -implicitDefEqProofs only [go_sem, Nat.reduceBEq]
  · simp -dsimp -implicitDefEqProofs only [go_sem, Nat.reduceBEq, List.take_zero]; rfl
  · simp -dsimp -implicitDefEqProofs only [go_sem, Nat.reduceBEq]
  rintro n ⟨e, σ⟩ ⟨i, hi, rfl, h8, h9, h10, h3, h4, g3⟩
  simp only at h8 h9 h10 h3 h4 g3
  simp -dsimp -implicitDefEqProofs only [go_sem, Nat.reduceBEq, h9, h10]
  refine ifB'.of (fun hlt => ?_) (fun hlt => ?_)
  · have hlt : i < bs.length := by omega
    have e1 := bytesA_at hlt
    generalize hc : crcU 4294967295 (bs.take i) = c at h4
    have hk : (c.toUInt8 ^^^ bs[i]).toNat < 256 := (c.toUInt8 ^^^ bs[i]).toNat_lt
    have e2 := w32s_at (l := crcTab 256) (i := (c.toUInt8 ^^^ bs[i]).toNat) (by rw [crcTab_length]; exact hk)
    have e3 : (w32s (crcTab 256))[0 + (c.toUInt8 ^^^ bs[i]).toNat * 1]? = some (.v (.int .u32 (crcN 8 (UInt32.ofNat (c.toUInt8 ^^^ bs[i]).toNat)).toNat)) := by
      rw [Nat.zero_add, Nat.mul_one, e2, crcTab_at hk]
    simp -dsimp -implicitDefEqProofs only [go_sem, Nat.reduceBEq, h8, h9, h10, h3, h4, g3, e1, e3, u32_shr8, u8_of_u32, u8_xor, u32_xor, wrap_succ (show i < 4611686018427387904 by omega)]
    refine ask.of (by omega) ⟨by decide, ask.of (by omega) ⟨bs.length - (i + 1), by omega, i + 1, by omega, rfl, rfl, ?_⟩⟩
    rw [List.take_succ_eq_append_getElem hlt, crcU_snoc, hc, crc_byte]
  · simp -dsimp -implicitDefEqProofs only [go_sem, Nat.reduceBEq, h4, u32_not]
    have : i = bs.length := by omega
    subst this
    simp [w32]

theorem m16 (bs : List UInt8) (hb : bs.length ≤ 1048576) : Meets Try.prog 16 [rowB bs] (fun r => r = rowB bs) := by
  refine Meets.intro mixed (fun _ => 0) Try.func16 rfl (by decide) res_16 rty_16 (by kernel_rfl) ?_
  simp -dsimp -implicitDefEqProofs only [go_sem, Nat.reduceBEq]
  refine ask.of (by simp; omega) ?_
  refine LoopE.of (fun n s => ∃ i, i ≤ bs.length ∧ n = bs.length - i ∧ s.env 0 = .rd .ent 5 1 (bytesA bs) ∧ s.env 3 = .ref [7] ∧ s.env 4 = .v (.int .i64 i) ∧
    s.σ [7] = some (.row 5 1 (bytesA (bs.take i ++ List.replicate (bs.length - i) 0)))) bs.length ⟨0, by simp, by simp, ?_, ?_, ?_, ?_⟩ ?_
  · simp -dsimp -implicitDefEqProofs only [go_sem, Nat.reduceBEq, initE]
  · simp -dsimp -implicitDefEqProofs only [go_sem, Nat.reduceBEq]
  · simp -dsimp -implicitDefEqProofs only [go_sem, Nat.reduceBEq]; simp
  · simp -dsimp -implicitDefEqProofs only [go_sem, Nat.reduceBEq]; simp
  · rintro n ⟨e, σ⟩ ⟨i, hi, rfl, h0, h3, h4, h7⟩
    simp only at h0 h3 h4 h7
    simp -dsimp -implicitDefEqProofs only [go_sem, Nat.reduceBEq, h0, h3, h4, h7]
    refine ifB'.of (fun hlt => ?_) (fun hlt => ?_)
    · have hlt : i < bs.length := by omega
      have e1 := bytesA_at hlt
      have hl : (List.take i bs ++ List.replicate (bs.length - i) 0).length = bs.length := by simp; omega
      have e2 := bytesA_at (bs := List.take i bs ++ List.replicate (bs.length - i) 0) (by rw [hl]; exact hlt)
      simp -dsimp -implicitDefEqProofs only [go_sem, Nat.reduceBEq, h0, h3, h4, h7, e1, e2, hl, wrap_succ (show i < 4611686018427387904 by omega), fill_set bs 0 hlt]
      exact ⟨by omega, by omega, by omega, bs.length - (i + 1), by omega, i + 1, by omega, rfl, rfl, rfl⟩
    · simp -dsimp -implicitDefEqProofs only [go_sem, Nat.reduceBEq, h0, h3, h4, h7]
      have : i = bs.length := by omega
      subst this
      simp
theorem m4 (bs : List UInt8) : Meets Try.prog 4 [rowB bs] (fun r => r = .v (.bool true)) := by
  refine Meets.intro mixed (fun _ => 0) Try.func4 rfl (by decide) res_4 rty_4 (by kernel_rfl) ?_
  simp -dsimp -implicitDefEqProofs only [go_sem, Nat.reduceBEq]
  refine ifB'.of (fun hgt => ?_) (fun hgt => ?_)
  · simp -dsimp -implicitDefEqProofs only [go_sem, Nat.reduceBEq]
  · have hb : bs.length ≤ 1048576 := by omega
    simp -dsimp -implicitDefEqProofs only [go_sem, Nat.reduceBEq]
    refine CallE.of (m16 bs hb) (by rintro r rfl; exact pure_rowB bs) (by simp -dsimp -implicitDefEqProofs only [go_sem, Nat.reduceBEq]) ?_
    rintro r rfl
    simp -dsimp -implicitDefEqProofs only [go_sem, Nat.reduceBEq]
    refine CallE.of (m15 bs hb) (by rintro r rfl; trivial) (by simp -dsimp -implicitDefEqProofs only [go_sem, Nat.reduceBEq]) ?_
    rintro r rfl
    simp -dsimp -implicitDefEqProofs only [go_sem, w32, Nat.reduceBEq]
    refine CallE.of (m16 bs hb) (by rintro r rfl; exact pure_rowB bs) (by simp -dsimp -implicitDefEqProofs only [go_sem, Nat.reduceBEq]) ?_
    rintro r rfl
    simp -dsimp -implicitDefEqProofs only [go_sem, Nat.reduceBEq]
    refine CallE.of (m17 bs hb) (by rintro r rfl; trivial) (by simp -dsimp -implicitDefEqProofs only [go_sem, Nat.reduceBEq]) ?_
    rintro r rfl
    simp -dsimp -implicitDefEqProofs only [go_sem, w32, Nat.reduceBEq, decide_true, Bool.not_true]
    refine CallE.of (m16 bs hb) (by rintro r rfl; exact pure_rowB bs) (by simp -dsimp -implicitDefEqProofs only [go_sem, Nat.reduceBEq]) ?_
    rintro r rfl
    simp -dsimp -implicitDefEqProofs only [go_sem, Nat.reduceBEq]
    refine CallE.of (m18 bs bs hb) (by rintro r rfl; trivial) (by simp -dsimp -implicitDefEqProofs only [go_sem, Nat.reduceBEq]) ?_
    rintro r rfl
    simp -dsimp -implicitDefEqProofs only [go_sem, Nat.reduceBEq, decide_true, Bool.not_true]
end Go.Ev
