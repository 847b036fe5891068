/- FnExactCrc32: the contracts. -/
import Derived.Test.YtjmmdlifljlogaaLb
import Derived.Test.YtjmmdlifljlogaaFc
set_option linter.unusedSimpArgs false
set_option linter.unusedVariables false
namespace Go.Ev
open Go Go.RowKit Go.Proofs
/-! ### words of 32 bits -/
def w32 (c : UInt32) : AV := .v (.int .u32 c.toNat)
theorem wrap_u32 (n : Nat) : IntKind.u32.wrap (n : Int) = ((n % 4294967296 : Nat) : Int) := by
  simp [IntKind.wrap, IntKind.bits, IntKind.signed]
theorem wrap_u32_lt {n : Nat} (h : n < 4294967296) : IntKind.u32.wrap (n : Int) = (n : Int) := by rw [wrap_u32, Nat.mod_eq_of_lt h]
theorem wrap_u8 (n : Nat) : IntKind.u8.wrap (n : Int) = ((n % 256 : Nat) : Int) := by
  simp [IntKind.wrap, IntKind.bits, IntKind.signed]
theorem bv32 (a : UInt32) : BitVec.ofInt 32 (a.toNat : Int) = a.toBitVec := by
  apply BitVec.eq_of_toNat_eq
  simp
theorem u32_xor (a b : UInt32) : IntKind.u32.wrap ((BitVec.ofInt IntKind.u32.bits (a.toNat : Int) ^^^ BitVec.ofInt IntKind.u32.bits (b.toNat : Int)).toNat : Int) = ((a ^^^ b).toNat : Int) := by
  show IntKind.u32.wrap ((BitVec.ofInt 32 (a.toNat : Int) ^^^ BitVec.ofInt 32 (b.toNat : Int)).toNat : Int) = _
  rw [bv32, bv32, wrap_u32_lt (BitVec.isLt _)]
  rfl
theorem u32_xor_poly (a : UInt32) : IntKind.u32.wrap ((BitVec.ofInt IntKind.u32.bits (a.toNat : Int) ^^^ BitVec.ofInt IntKind.u32.bits 3988292384).toNat : Int) = ((a ^^^ 3988292384).toNat : Int) := u32_xor a 3988292384
theorem u32_xor_all (a : UInt32) : IntKind.u32.wrap ((BitVec.ofInt IntKind.u32.bits (a.toNat : Int) ^^^ BitVec.ofInt IntKind.u32.bits 4294967295).toNat : Int) = ((a ^^^ 4294967295).toNat : Int) := u32_xor a 4294967295
theorem u32_and_one (a : UInt32) : IntKind.u32.wrap ((BitVec.ofInt IntKind.u32.bits (a.toNat : Int) &&& BitVec.ofInt IntKind.u32.bits 1).toNat : Int) = ((a &&& 1).toNat : Int) := by
  show IntKind.u32.wrap ((BitVec.ofInt 32 (a.toNat : Int) &&& BitVec.ofInt 32 (((1 : UInt32).toNat : Nat) : Int)).toNat : Int) = _
  rw [bv32, bv32, wrap_u32_lt (BitVec.isLt _)]
  rfl
theorem u32_half (a : UInt32) : IntKind.u32.wrap ((a.toNat : Int).tdiv 2) = ((a / 2).toNat : Int) := by
  have h : (a.toNat : Int).tdiv 2 = ((a.toNat / 2 : Nat) : Int) := rfl
  have h2 := a.toNat_lt
  rw [h, wrap_u32_lt (by omega)]
  simp
theorem u32_odd (a : UInt32) : (a.toNat : Int).tmod 2 = ((a % 2).toNat : Int) := by
  have h : (a.toNat : Int).tmod 2 = ((a.toNat % 2 : Nat) : Int) := rfl
  rw [h]; simp
theorem u32_shr8 (a : UInt32) : (a.toNat : Int).fdiv (2 ^ (min (Int.toNat 8) 32)) = ((a >>> 8).toNat : Int) := by
  show (a.toNat : Int).fdiv 256 = _
  rw [Int.fdiv_eq_ediv_of_nonneg _ (by decide), UInt32.toNat_shiftRight, Nat.shiftRight_eq_div_pow]
  rfl
theorem u32_shr1 (a : UInt32) : (a.toNat : Int).fdiv (2 ^ (min (Int.toNat 1) 32)) = ((a / 2).toNat : Int) := by
  show (a.toNat : Int).fdiv 2 = _
  rw [Int.fdiv_eq_ediv_of_nonneg _ (by decide)]
  simp
theorem u32_of_u8 (b : UInt8) : IntKind.u32.wrap (b.toNat : Int) = (b.toUInt32.toNat : Int) := by
  have := b.toNat_lt
  rw [wrap_u32_lt (by omega)]; simp
theorem u8_of_u32 (c : UInt32) : IntKind.u8.wrap (c.toNat : Int) = (c.toUInt8.toNat : Int) := by
  rw [wrap_u8]; simp
theorem u8_xor (a b : UInt8) : IntKind.u8.wrap ((BitVec.ofInt IntKind.u8.bits (a.toNat : Int) ^^^ BitVec.ofInt IntKind.u8.bits (b.toNat : Int)).toNat : Int) = ((a ^^^ b).toNat : Int) := by
  have bv8 : ∀ a : UInt8, BitVec.ofInt 8 (a.toNat : Int) = a.toBitVec := fun a => by apply BitVec.eq_of_toNat_eq; simp
  show IntKind.u8.wrap ((BitVec.ofInt 8 (a.toNat : Int) ^^^ BitVec.ofInt 8 (b.toNat : Int)).toNat : Int) = _
  rw [bv8, bv8, wrap_u8, Nat.mod_eq_of_lt (BitVec.isLt _)]
  rfl

/-! ### the sum -/
def crcStep (c : UInt32) : UInt32 := if c % 2 = 1 then (c / 2) ^^^ 3988292384 else c / 2
def crcN : Nat → UInt32 → UInt32
  | 0, c => c
  | n + 1, c => crcStep (crcN n c)
def crcU (c : UInt32) : List UInt8 → UInt32
  | [] => c
  | b :: bs => crcU (crcN 8 (c ^^^ b.toUInt32)) bs
theorem crcU_snoc (c : UInt32) (l : List UInt8) (b : UInt8) : crcU c (l ++ [b]) = crcN 8 (crcU c l ^^^ b.toUInt32) := by
  induction l generalizing c with
  | nil => rfl
  | cons x l ih => exact ih _
def rowEq (a b : List UInt8) : Bool := decide (a = b)

theorem m15 (bs : List UInt8) (hb : bs.length ≤ 1048576) : Meets Try.prog 15 [rowB bs] (fun r => r = w32 (crcU 4294967295 bs ^^^ 4294967295)) := by
  refine Meets.intro mixed (fun _ => 0) Try.func15 rfl (by decide) res_15 rty_15 (by kernel_rfl) ?_
  simp -dsimp -implicitDefEqProofs only [go_sem, Nat.reduceBEq]
  refine LoopE.of (fun n s => ∃ i, i ≤ bs.length ∧ n = bs.length - i ∧ s.env 0 = .rd .ent 5 1 (bytesA bs) ∧ s.env 4 = .v (.int .i64 i) ∧ s.env 3 = .v (.int .u32 (crcU 4294967295 (bs.take i)).toNat)) bs.length ⟨0, by simp, by simp, ?_, ?_, ?_⟩ ?_
  · simp -dsimp -implicitDefEqProofs only [go_sem, Nat.reduceBEq, initE]
  · simp -dsimp -implicitDefEqProofs only [go_sem, Nat.reduceBEq]; simp
  · simp -dsimp -implicitDefEqProofs only [go_sem, Nat.reduceBEq, List.take_zero]; rfl
  rintro n ⟨e, σ⟩ ⟨i, hi, rfl, h0, h4, h3⟩
  simp only at h0 h3 h4
  simp -dsimp -implicitDefEqProofs only [go_sem, Nat.reduceBEq, h0, h3, h4]
  refine ifB'.of (fun hlt => ?_) (fun hlt => ?_)
  · have hlt : i < bs.length := by omega
    have e1 := bytesA_at hlt
    simp -dsimp -implicitDefEqProofs only [go_sem, Nat.reduceBEq, h0, h3, h4, e1, u32_of_u8, u32_xor]
    refine ask.of (by omega) ?_
    refine LoopE.of (fun n s => ∃ j, j ≤ 8 ∧ n = 8 - j ∧ s.env 0 = .rd .ent 5 1 (bytesA bs) ∧ s.env 4 = .v (.int .i64 i) ∧ s.env 5 = .v (.int .i64 j) ∧ s.env 3 = .v (.int .u32 (crcN j (crcU 4294967295 (bs.take i) ^^^ bs[i].toUInt32)).toNat)) 8 ⟨0, by simp, by simp, ?_, ?_, ?_, ?_⟩ ?_
    · simp -dsimp -implicitDefEqProofs only [go_sem, Nat.reduceBEq, h0]
    · simp -dsimp -implicitDefEqProofs only [go_sem, Nat.reduceBEq, h4]
    · simp -dsimp -implicitDefEqProofs only [go_sem, Nat.reduceBEq]; simp
    · simp -dsimp -implicitDefEqProofs only [go_sem, Nat.reduceBEq]; simp [crcN]
    rintro n ⟨e, σ⟩ ⟨j, hj, rfl, h0, h4, h5, h3⟩
    simp only at h0 h3 h4 h5
    generalize hc : crcN j (crcU 4294967295 (bs.take i) ^^^ bs[i].toUInt32) = c at h3
    simp -dsimp -implicitDefEqProofs only [go_sem, Nat.reduceBEq, h0, h3, h4, h5]
    refine ifB'.of (fun hlt2 => ?_) (fun hlt2 => ?_)
    · simp -dsimp -implicitDefEqProofs only [go_sem, Nat.reduceBEq, h0, h3, h4, h5, u32_odd, u32_half, Int.reduceNe]
      refine ifB'.of (fun hod => ?_) (fun hod => ?_)
      · simp -dsimp -implicitDefEqProofs only [go_sem, Nat.reduceBEq, h0, h3, h4, h5, u32_xor_poly, wrap_succ (show j < 4611686018427387904 by omega)]
        refine ⟨8 - (j + 1), by omega, j + 1, by omega, rfl, rfl, ?_⟩
        rw [crcN, hc, crcStep, if_pos (UInt32.toNat_inj.1 (Int.ofNat_inj.1 hod))]
      · simp -dsimp -implicitDefEqProofs only [go_sem, Nat.reduceBEq, h0, h3, h4, h5, wrap_succ (show j < 4611686018427387904 by omega)]
        refine ⟨8 - (j + 1), by omega, j + 1, by omega, rfl, rfl, ?_⟩
        rw [crcN, hc, crcStep, if_neg (fun e => hod (by rw [e]; rfl))]
    · simp -dsimp -implicitDefEqProofs only [go_sem, Nat.reduceBEq, h0, h3, h4, h5, wrap_succ (show i < 4611686018427387904 by omega)]
      refine ⟨bs.length - (i + 1), by omega, i + 1, by omega, rfl, rfl, ?_⟩
      have : j = 8 := by omega
      subst this
      rw [List.take_succ_eq_append_getElem hlt, crcU_snoc, hc]
  · simp -dsimp -implicitDefEqProofs only [go_sem, Nat.reduceBEq, h0, h3, h4, u32_xor_all]
    have : i = bs.length := by omega
    subst this
    simp [w32]
theorem m18 (a b : List UInt8) (ha : a.length ≤ 1048576) : Meets Try.prog 18 [rowB a, rowB b] (fun r => r = .v (.bool (decide (a = b)))) := by
  refine Meets.intro mixed (fun _ => 0) Try.func18 rfl (by decide) res_18 rty_18 (by kernel_rfl) ?_
  simp -dsimp -implicitDefEqProofs only [go_sem, Nat.reduceBEq]
  refine ifB'.of (fun hne => ?_) (fun hne => ?_)
  · have hl : a.length = b.length := by omega
    simp -dsimp -implicitDefEqProofs only [go_sem, Nat.reduceBEq]
    refine LoopE.of (fun n s => ∃ i, i ≤ a.length ∧ n = a.length - i ∧ s.env 0 = .rd .ent 5 1 (bytesA a) ∧ s.env 1 = .rd .ent 5 1 (bytesA b) ∧ s.env 5 = .v (.int .i64 i) ∧ a.take i = b.take i) a.length ⟨0, by simp, by simp, ?_, ?_, ?_, by simp⟩ ?_
    · simp -dsimp -implicitDefEqProofs only [go_sem, Nat.reduceBEq, initE]
    · simp -dsimp -implicitDefEqProofs only [go_sem, Nat.reduceBEq, initE]
    · simp -dsimp -implicitDefEqProofs only [go_sem, Nat.reduceBEq]; simp
    rintro n ⟨e, σ⟩ ⟨i, hi, rfl, h0, h1, h5, ht⟩
    simp only at h0 h1 h5
    simp -dsimp -implicitDefEqProofs only [go_sem, Nat.reduceBEq, h0, h1, h5]
    refine ifB'.of (fun hlt => ?_) (fun hlt => ?_)
    · have hlt : i < a.length := by omega
      have hlb : i < b.length := by omega
      have e1 := bytesA_at hlt
      have e2 := bytesA_at hlb
      simp -dsimp -implicitDefEqProofs only [go_sem, Nat.reduceBEq, h0, h1, h5, e1, e2]
      refine ask.of (by omega) (ask.of (by omega) (ifB'.of (fun hx => ?_) (fun hx => ?_)))
      · simp -dsimp -implicitDefEqProofs only [go_sem, Nat.reduceBEq, h0, h1, h5, wrap_succ (show i < 4611686018427387904 by omega)]
        refine ⟨a.length - (i + 1), by omega, i + 1, by omega, rfl, rfl, ?_⟩
        rw [List.take_succ_eq_append_getElem hlt, List.take_succ_eq_append_getElem hlb, ht, UInt8.toNat_inj.1 (Int.ofNat_inj.1 hx)]
      · simp -dsimp -implicitDefEqProofs only [go_sem, Nat.reduceBEq]
        refine (decide_eq_false fun e => hx ?_).symm
        subst e; rfl
    · simp -dsimp -implicitDefEqProofs only [go_sem, Nat.reduceBEq]
      have : i = a.length := by omega
      subst this
      refine (decide_eq_true ?_).symm
      rw [List.take_length, hl, List.take_length] at ht
      exact ht
  · simp -dsimp -implicitDefEqProofs only [go_sem, Nat.reduceBEq]
    refine (decide_eq_false fun e => hne ?_).symm
    rw [e]
def w32s (l : List UInt32) : List AV := l.map w32
theorem w32s_length (l : List UInt32) : (w32s l).length = l.length := by simp [w32s]
theorem w32s_kill (I J : List Id) : ∀ l : List UInt32, killL I J (w32s l) = w32s l
  | [] => rfl
  | c :: l => congrArg (w32 c :: ·) (w32s_kill I J l)
theorem w32s_ok : ∀ l : List UInt32, (w32s l).all okBox = true
  | [] => rfl
  | c :: l => w32s_ok l
theorem w32s_zeros (n : Nat) : List.replicate n (AV.v (.int .u32 0)) = w32s (List.replicate n 0) := by simp [w32s, w32]
theorem w32s_set (l : List UInt32) (i : Nat) (c : UInt32) : (w32s l).set i (.v (.int .u32 c.toNat)) = w32s (l.set i c) := by simp [w32s, w32, List.map_set]
theorem w32s_at {l : List UInt32} {i : Nat} (h : i < l.length) : (w32s l)[i]? = some (.v (.int .u32 l[i].toNat)) := by simp [w32s, w32, h]
theorem w32s_map (f : AV → AV) (hf : ∀ c, f (w32 c) = w32 c) (l : List UInt32) : (w32s l).map f = w32s l := by simp [w32s, Function.comp_def, hf]
theorem setAt_full : ∀ (k : Nat) (pre vs cs : List AV), pre.length = k → vs.length = cs.length → setAt vs k (pre ++ cs) = pre ++ vs
  | k, pre, [], cs, _, h => by simp [setAt, List.eq_nil_of_length_eq_zero h.symm]
  | k, pre, v :: vs, [], _, h => by simp at h
  | k, pre, v :: vs, c :: cs, hp, h => by
    subst hp
    rw [setAt]
    have e : (pre ++ c :: cs).set pre.length v = (pre ++ [v]) ++ cs := by simp
    rw [e, setAt_full (pre.length + 1) (pre ++ [v]) vs cs (by simp) (by simpa using h)]
    simp
theorem w32s_clL (s : St) : ∀ l : List UInt32, s.clL (w32s l) = some (w32s l, [])
  | [] => rfl
  | c :: l => by
    show bindO (some (w32 c, [])) (fun x => bindO (s.clL (w32s l)) fun y => some (x.1 :: y.1, x.2 ++ y.2)) = _
    rw [w32s_clL s l]
    rfl
theorem nilL_one (l : List AV) : nilL [none] l = l := by cases l <;> simp [nilL, nilC]
theorem w32s_setAt (l l' : List UInt32) (h : l.length = l'.length) : setAt (w32s l) 0 (w32s l') = w32s l := by
  simpa using setAt_full 0 [] (w32s l) (w32s l') rfl (by simp [w32s_length, h])
def crcTab (n : Nat) : List UInt32 := (List.range n).map fun j => crcN 8 (UInt32.ofNat j)
theorem crcTab_length (n : Nat) : (crcTab n).length = n := by simp [crcTab]
attribute [go_sem] nilL_one w32s_clL w32s_length w32s_kill w32s_ok w32s_zeros w32s_set w32s_setAt crcTab_length
theorem u32_of_nat {i : Nat} (h : i < 4294967296) : IntKind.u32.wrap (i : Int) = ((UInt32.ofNat i).toNat : Int) := by
  rw [wrap_u32_lt h, UInt32.toNat_ofNat_of_lt' h]
theorem u32_bit (a : UInt32) : (a &&& 1).toNat = (a % 2).toNat := by
  rw [UInt32.toNat_and]
  simp [Nat.and_one_is_mod]
theorem m63 : Meets Try.prog 63 [] (fun r => r = .agg (w32s (crcTab 256))) := by
  refine Meets.intro mixed (fun _ => 0) Try.func63 rfl (by decide) res_63 rty_63 (by kernel_rfl) ?_
  simp -dsimp -implicitDefEqProofs only [go_sem, Nat.reduceBEq]
  refine ask.of (by simp only [List.length_replicate]) (ask.of (by simp only [List.length_replicate]; omega) ?_)
  refine LoopE.of (fun n s => ∃ i, i ≤ 256 ∧ n = 256 - i ∧ s.env 0 = .ptr [0] 0 0 0 ∧ s.env 1 = .ptr [1] 0 0 0 ∧ s.env 6 = .v (.int .i64 i) ∧
    s.σ [0] = some (.box 86 (w32s (List.replicate 256 0))) ∧ s.σ [1] = some (.box 86 (w32s (crcTab i ++ List.replicate (256 - i) 0)))) 256 ⟨0, by simp, by simp, ?_, ?_, ?_, ?_, ?_⟩ ?_
  · simp -dsimp -implicitDefEqProofs only [go_sem, Nat.reduceBEq]
  · simp -dsimp -implicitDefEqProofs only [go_sem, Nat.reduceBEq]
  · simp -dsimp -implicitDefEqProofs only [go_sem, Nat.reduceBEq]; simp
  · simp -dsimp -implicitDefEqProofs only [go_sem, Nat.reduceBEq]
  · simp -dsimp -implicitDefEqProofs only [go_sem, Nat.reduceBEq]
    rfl
  rintro n ⟨e, σ⟩ ⟨i, hi, rfl, h0, h1, h6, g0, g1⟩
  simp only at h0 h1 h6 g0 g1
  simp -dsimp -implicitDefEqProofs only [go_sem, Nat.reduceBEq, h0, h1, h6, g0, g1]
  refine ifB'.of (fun hlt => ?_) (fun hlt => ?_)
  · have hlt : i < 256 := by omega
    simp -dsimp -implicitDefEqProofs only [go_sem, Nat.reduceBEq, h0, h1, h6, g0, g1, u32_of_nat (show i < 4294967296 by omega)]
    refine LoopE.of (fun n s => ∃ j, j ≤ 8 ∧ n = 8 - j ∧ s.env 0 = .ptr [0] 0 0 0 ∧ s.env 1 = .ptr [1] 0 0 0 ∧ s.env 6 = .v (.int .i64 i) ∧ s.env 2 = .v (.int .i64 i) ∧ s.env 11 = .v (.int .i64 j) ∧ s.env 3 = .v (.int .u32 (crcN j (UInt32.ofNat i)).toNat) ∧
      s.σ [0] = some (.box 86 (w32s (List.replicate 256 0))) ∧ s.σ [1] = some (.box 86 (w32s (crcTab i ++ List.replicate (256 - i) 0)))) 8 ⟨0, by simp, by simp, ?_, ?_, ?_, ?_, ?_, ?_, ?_, ?_⟩ ?_
    · simp -dsimp -implicitDefEqProofs only [go_sem, Nat.reduceBEq, h0]
    · simp -dsimp -implicitDefEqProofs only [go_sem, Nat.reduceBEq, h1]
    · simp -dsimp -implicitDefEqProofs only [go_sem, Nat.reduceBEq, h6]
    · simp -dsimp -implicitDefEqProofs only [go_sem, Nat.reduceBEq]
    · simp -dsimp -implicitDefEqProofs only [go_sem, Nat.reduceBEq]; simp
    · simp -dsimp -implicitDefEqProofs only [go_sem, Nat.reduceBEq, crcN]
    · simp -dsimp -implicitDefEqProofs only [go_sem, Nat.reduceBEq, g0]
    · simp -dsimp -implicitDefEqProofs only [go_sem, Nat.reduceBEq, g1]
    rintro n ⟨e, σ⟩ ⟨j, hj, rfl, h0, h1, h6, h2, h11, h3, g0, g1⟩
    simp only at h0 h1 h6 h2 h11 h3 g0 g1
    generalize hc : crcN j (UInt32.ofNat i) = c at h3
    simp -dsimp -implicitDefEqProofs only [go_sem, Nat.reduceBEq, h11]
    refine ifB'.of (fun hlt2 => ?_) (fun hlt2 => ?_)
    · simp -dsimp -implicitDefEqProofs only [go_sem, Nat.reduceBEq, h3, u32_and_one, u32_shr1, u32_bit]
      refine ask.of (by decide) ?_
      refine ifB'.of (fun hod => ?_) (fun hod => ?_)
      · simp -dsimp -implicitDefEqProofs only [go_sem, Nat.reduceBEq, h0, h1, h6, h2, h11, g0, g1, u32_xor_poly, wrap_succ (show j < 4611686018427387904 by omega)]
        refine ⟨8 - (j + 1), by omega, j + 1, by omega, rfl, rfl, ?_⟩
        rw [crcN, hc, crcStep, if_pos (UInt32.toNat_inj.1 (Int.ofNat_inj.1 hod))]
      · simp -dsimp -implicitDefEqProofs only [go_sem, Nat.reduceBEq, h0, h1, h6, h2, h11, g0, g1, wrap_succ (show j < 4611686018427387904 by omega)]
        refine ⟨8 - (j + 1), by omega, j + 1, by omega, rfl, rfl, ?_⟩
        rw [crcN, hc, crcStep, if_neg (fun e => hod (by rw [e]; rfl))]
    · have : j = 8 := by omega
      subst this
      simp -dsimp -implicitDefEqProofs only [go_sem, Nat.reduceBEq, h0, h1, h6, h2, h11, h3, g0, g1, wrap_succ (show i < 4611686018427387904 by omega)]
      have hl : (crcTab i ++ List.replicate (256 - i) 0).length = 256 := by simp only [List.length_append, crcTab_length, List.length_replicate]; omega
      refine ask.of (by omega) (ask.of (by omega) ⟨256 - (i + 1), by omega, i + 1, by omega, rfl, rfl, ?_⟩)
      have e : 256 - i = (256 - (i + 1)) + 1 := by omega
      rw [show 0 + i * 1 = i by omega, e, List.replicate_succ, List.set_append_right _ _ (by rw [crcTab_length]; exact Nat.le_refl _), crcTab_length, Nat.sub_self, List.set_cons_zero]
      have e2 : crcTab (i + 1) = crcTab i ++ [c] := by rw [crcTab, List.range_succ, List.map_append, ← hc]; rfl
      rw [e2, List.append_assoc]
      rfl
  · have : i = 256 := by omega
    subst this
    have e0 : crcTab 256 ++ List.replicate (256 - 256) 0 = crcTab 256 := List.append_nil _
    rw [e0] at g1
    have e1 : List.take 256 (w32s (crcTab 256)) = w32s (crcTab 256) := by
      exact List.take_of_length_le (by rw [w32s_length, crcTab_length]; exact Nat.le_refl _)
    have e2 : Nat.ble (0 + 256) 256 = true := rfl
    simp -dsimp -implicitDefEqProofs only [go_sem, Nat.reduceBEq, h0, h1, h6, g0, g1, e1, e2, w32s_setAt (crcTab 256) (List.replicate 256 0) (by rw [crcTab_length, List.length_replicate]), List.map_id', List.length_replicate]
    exact ⟨by decide, trivial⟩
end Go.Ev
