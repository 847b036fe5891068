/- Contracts: the sum of 32 bits, bit by bit and by a table. -/
import Derived.Test.YtijmbcnhkdhkeaaLc
set_option linter.unusedSimpArgs false
set_option linter.unusedVariables false
namespace Go.Ev
open Go Go.RowKit Go.Proofs
/-! ### words of 32 bits -/
def w32 (c : UInt32) : AV := .v (.int .u32 c.toNat)
theorem wrap_u32_lt {n : Nat} (h : n < 4294967296) : IntKind.u32.wrap (n : Int) = (n : Int) := by rw [wrap_u32, Nat.mod_eq_of_lt h]
theorem bv32 (a : UInt32) : BitVec.ofInt 32 (a.toNat : Int) = a.toBitVec := by
  apply BitVec.eq_of_toNat_eq
  simp
theorem u32_xor (a b : UInt32) : IntKind.u32.wrap ((BitVec.ofInt IntKind.u32.bits (a.toNat : Int) ^^^ BitVec.ofInt IntKind.u32.bits (b.toNat : Int)).toNat : Int) = ((a ^^^ b).toNat : Int) := by
  show IntKind.u32.wrap ((BitVec.ofInt 32 (a.toNat : Int) ^^^ BitVec.ofInt 32 (b.toNat : Int)).toNat : Int) = _
  rw [bv32, bv32, wrap_u32_lt (BitVec.isLt _)]
  rfl
theorem u32_xor_poly (a : UInt32) : IntKind.u32.wrap ((BitVec.ofInt IntKind.u32.bits (a.toNat : Int) ^^^ BitVec.ofInt IntKind.u32.bits 3988292384).toNat : Int) = ((a ^^^ 3988292384).toNat : Int) := u32_xor a 3988292384
theorem u32_xor_all (a : UInt32) : IntKind.u32.wrap ((BitVec.ofInt IntKind.u32.bits (a.toNat : Int) ^^^ BitVec.ofInt IntKind.u32.bits 4294967295).toNat : Int) = ((a ^^^ 4294967295).toNat : Int) := u32_xor a 4294967295
theorem u32_and_one (a : UInt32) : IntKind.u32.wrap ((BitVec.ofInt IntKind.u32.bits (a.toNat : Int) &&& BitVec.ofInt IntKind.u32.bits 1).toNat : Int) = ((a &&& 1).toNat : Int) := by
  show IntKind.u32.wrap ((BitVec.ofInt 32 (a.toNat : Int) &&& BitVec.ofInt 32 (((1 : UInt32).toNat : Nat) : Int)).toNat : Int) = _
  rw [bv32, bv32, wrap_u32_lt (BitVec.isLt _)]
  rfl
theorem u32_half (a : UInt32) : IntKind.u32.wrap ((a.toNat : Int).tdiv 2) = ((a / 2).toNat : Int) := by
  have h : (a.toNat : Int).tdiv 2 = ((a.toNat / 2 : Nat) : Int) := rfl
  have h2 := a.toNat_lt
  rw [h, wrap_u32_lt (by omega)]
  simp
theorem u32_odd (a : UInt32) : (a.toNat : Int).tmod 2 = ((a % 2).toNat : Int) := by
  have h : (a.toNat : Int).tmod 2 = ((a.toNat % 2 : Nat) : Int) := rfl
  rw [h]; simp
theorem u32_shr8 (a : UInt32) : (a.toNat : Int).fdiv (2 ^ (min (Int.toNat 8) 32)) = ((a >>> 8).toNat : Int) := by
  show (a.toNat : Int).fdiv 256 = _
  rw [Int.fdiv_eq_ediv_of_nonneg _ (by decide), UInt32.toNat_shiftRight, Nat.shiftRight_eq_div_pow]
  rfl
theorem u32_shr1 (a : UInt32) : (a.toNat : Int).fdiv (2 ^ (min (Int.toNat 1) 32)) = ((a / 2).toNat : Int) := by
  show (a.toNat : Int).fdiv 2 = _
  rw [Int.fdiv_eq_ediv_of_nonneg _ (by decide)]
  simp
theorem u32_of_u8 (b : UInt8) : IntKind.u32.wrap (b.toNat : Int) = (b.toUInt32.toNat : Int) := by
  have := b.toNat_lt
  rw [wrap_u32_lt (by omega)]; simp
theorem u8_of_u32 (c : UInt32) : IntKind.u8.wrap (c.toNat : Int) = (c.toUInt8.toNat : Int) := by
  rw [wrap_u8]; simp
theorem u8_xor (a b : UInt8) : IntKind.u8.wrap ((BitVec.ofInt IntKind.u8.bits (a.toNat : Int) ^^^ BitVec.ofInt IntKind.u8.bits (b.toNat : Int)).toNat : Int) = ((a ^^^ b).toNat : Int) := by
  have bv8 : ∀ a : UInt8, BitVec.ofInt 8 (a.toNat : Int) = a.toBitVec := fun a => by apply BitVec.eq_of_toNat_eq; simp
  show IntKind.u8.wrap ((BitVec.ofInt 8 (a.toNat : Int) ^^^ BitVec.ofInt 8 (b.toNat : Int)).toNat : Int) = _
  rw [bv8, bv8, wrap_u8, Nat.mod_eq_of_lt (BitVec.isLt _)]
  rfl

/-! ### the sum -/
def crcStep (c : UInt32) : UInt32 := if c % 2 = 1 then (c / 2) ^^^ 3988292384 else c / 2
def crcN : Nat → UInt32 → UInt32
  | 0, c => c
  | n + 1, c => crcStep (crcN n c)
def crcU (c : UInt32) : List UInt8 → UInt32
  | [] => c
  | b :: bs => crcU (crcN 8 (c ^^^ b.toUInt32)) bs
theorem crcU_snoc (c : UInt32) (l : List UInt8) (b : UInt8) : crcU c (l ++ [b]) = crcN 8 (crcU c l ^^^ b.toUInt32) := by
  induction l generalizing c with
  | nil => rfl
  | cons x l ih => exact ih _
def crcB (bs : List UInt8) : UInt32 := crcU 4294967295 bs ^^^ 4294967295
theorem c_specCrc32 (bs : List UInt8) (hb : bs.length ≤ 1048576) : Meets Try.prog 180 [rowB bs] (fun r => r = .v (.int .u32 (crcB bs).toNat)) := by
  refine Meets.intro mixed (hint []) Try.func180 rfl (by decide) res_180 rty_180 (by kernel_rfl) ?_; 
  simp -dsimp -implicitDefEqProofs only [go_sem, Nat.reduceBEq, Nat.reduceAdd, Nat.reduceLeDiff, Nat.reduceSub, Int.reduceEq]
  refine LoopE.cnt bs.length (fun i s => s.env 0 = .rd .ent 5 1 (bytesA bs) ∧ s.env 4 = .v (.int .i64 i) ∧ s.env 3 = .v (.int .u32 (crcU 4294967295 (bs.take i)).toNat)) ⟨by simp -dsimp -implicitDefEqProofs only [go_sem, Nat.reduceBEq, Nat.reduceAdd, Nat.reduceLeDiff, Nat.reduceSub, Int.reduceEq, initE], by simp -dsimp -implicitDefEqProofs only [go_sem, Nat.reduceBEq, Nat.reduceAdd, Nat.reduceLeDiff, Nat.reduceSub, Int.reduceEq], by simp -dsimp -implicitDefEqProofs only [go_sem, Nat.reduceBEq, Nat.reduceAdd, Nat.reduceLeDiff, Nat.reduceSub, Int.reduceEq, List.take_zero] <;> rfl⟩ ?_
  rintro i ⟨e, σ⟩ hi ⟨h0, h4, h3⟩ K hK
  simp only at h0 h3 h4
  simp -dsimp -implicitDefEqProofs only [go_sem, Nat.reduceBEq, Nat.reduceAdd, Nat.reduceLeDiff, Nat.reduceSub, Int.reduceEq, h0, h3, h4]
  refine ifB'.of (fun hlt => ?_) (fun hlt => ?_)
  · have hlt : i < bs.length := by omega
    have e1 := bytesA_at hlt
    simp -dsimp -implicitDefEqProofs only [go_sem, Nat.reduceBEq, Nat.reduceAdd, Nat.reduceLeDiff, Nat.reduceSub, Int.reduceEq, h0, h3, h4, e1, u32_of_u8, u32_xor]
    refine ask.of (by omega) ?_
    refine LoopE.cnt 8 (fun j s => s.env 0 = .rd .ent 5 1 (bytesA bs) ∧ s.env 4 = .v (.int .i64 i) ∧ s.env 5 = .v (.int .i64 j) ∧ s.env 3 = .v (.int .u32 (crcN j (crcU 4294967295 (bs.take i) ^^^ bs[i].toUInt32)).toNat)) ⟨by simp -dsimp -implicitDefEqProofs only [go_sem, Nat.reduceBEq, Nat.reduceAdd, Nat.reduceLeDiff, Nat.reduceSub, Int.reduceEq, h0, h3, h4], by simp -dsimp -implicitDefEqProofs only [go_sem, Nat.reduceBEq, Nat.reduceAdd, Nat.reduceLeDiff, Nat.reduceSub, Int.reduceEq, h0, h3, h4], by simp -dsimp -implicitDefEqProofs only [go_sem, Nat.reduceBEq, Nat.reduceAdd, Nat.reduceLeDiff, Nat.reduceSub, Int.reduceEq, h0, h3, h4], by simp -dsimp -implicitDefEqProofs only [go_sem, Nat.reduceBEq, Nat.reduceAdd, Nat.reduceLeDiff, Nat.reduceSub, Int.reduceEq, h0, h3, h4, crcN]⟩ ?_
    rintro j ⟨e, σ⟩ hj ⟨h0, h4, h5, h3⟩ K' hK'
    simp only at h0 h3 h4 h5
    generalize hc : crcN j (crcU 4294967295 (bs.take i) ^^^ bs[i].toUInt32) = c at h3
    simp -dsimp -implicitDefEqProofs only [go_sem, Nat.reduceBEq, Nat.reduceAdd, Nat.reduceLeDiff, Nat.reduceSub, Int.reduceEq, h0, h3, h4, h5]
    refine ifB'.of (fun hlt2 => ?_) (fun hlt2 => ?_)
    · simp -dsimp -implicitDefEqProofs only [go_sem, Nat.reduceBEq, Nat.reduceAdd, Nat.reduceLeDiff, Nat.reduceSub, Int.reduceEq, h0, h3, h4, h5, u32_odd, u32_half, Int.reduceNe]
      refine ifB'.of (fun hod => ?_) (fun hod => ?_)
      · simp -dsimp -implicitDefEqProofs only [go_sem, Nat.reduceBEq, Nat.reduceAdd, Nat.reduceLeDiff, Nat.reduceSub, Int.reduceEq, h0, h3, h4, h5, u32_xor_poly]
        refine hK' _ (by omega) ?_
        simp -dsimp -implicitDefEqProofs only [go_sem, Nat.reduceBEq, Nat.reduceAdd, Nat.reduceLeDiff, Nat.reduceSub, Int.reduceEq, h0, h3, h4, h5, wrap_succ (show j < 4611686018427387904 by omega)]
        rw [crcN, hc, crcStep, if_pos (UInt32.toNat_inj.1 (Int.ofNat_inj.1 hod))]
      · simp -dsimp -implicitDefEqProofs only [go_sem, Nat.reduceBEq, Nat.reduceAdd, Nat.reduceLeDiff, Nat.reduceSub, Int.reduceEq, h0, h3, h4, h5]
        refine hK' _ (by omega) ?_
        simp -dsimp -implicitDefEqProofs only [go_sem, Nat.reduceBEq, Nat.reduceAdd, Nat.reduceLeDiff, Nat.reduceSub, Int.reduceEq, h0, h3, h4, h5, wrap_succ (show j < 4611686018427387904 by omega)]
        rw [crcN, hc, crcStep, if_neg (fun e => hod (by rw [e]; rfl))]
    · simp -dsimp -implicitDefEqProofs only [go_sem, Nat.reduceBEq, Nat.reduceAdd, Nat.reduceLeDiff, Nat.reduceSub, Int.reduceEq, h0, h3, h4, h5]
      have : j = 8 := by omega
      subst this
      refine hK _ hlt ?_
      simp -dsimp -implicitDefEqProofs only [go_sem, Nat.reduceBEq, Nat.reduceAdd, Nat.reduceLeDiff, Nat.reduceSub, Int.reduceEq, h0, h3, h4, h5, wrap_succ (show i < 4611686018427387904 by omega)]
      rw [List.take_succ_eq_append_getElem hlt, crcU_snoc, hc]
  · have : i = bs.length := by omega
    subst this
    simp -dsimp -implicitDefEqProofs only [go_sem, Nat.reduceBEq, Nat.reduceAdd, Nat.reduceLeDiff, Nat.reduceSub, Int.reduceEq, h0, h3, h4, u32_xor_all, List.take_length]
    rfl
def w32s (l : List UInt32) : List AV := l.map w32
theorem w32s_length (l : List UInt32) : (w32s l).length = l.length := by simp [w32s]
theorem w32s_kill (I J : List Id) : ∀ l : List UInt32, killL I J (w32s l) = w32s l
  | [] => rfl
  | c :: l => congrArg (w32 c :: ·) (w32s_kill I J l)
theorem w32s_ok : ∀ l : List UInt32, (w32s l).all okBox = true
  | [] => rfl
  | c :: l => w32s_ok l
theorem w32s_zeros (n : Nat) : List.replicate n (AV.v (.int .u32 0)) = w32s (List.replicate n 0) := by simp [w32s, w32]
theorem w32s_set (l : List UInt32) (i : Nat) (c : UInt32) : (w32s l).set i (.v (.int .u32 c.toNat)) = w32s (l.set i c) := by simp [w32s, w32, List.map_set]
theorem w32s_at {l : List UInt32} {i : Nat} (h : i < l.length) : (w32s l)[i]? = some (.v (.int .u32 l[i].toNat)) := by simp [w32s, w32, h]
theorem w32s_map (f : AV → AV) (hf : ∀ c, f (w32 c) = w32 c) (l : List UInt32) : (w32s l).map f = w32s l := by simp [w32s, Function.comp_def, hf]
theorem setAt_full : ∀ (k : Nat) (pre vs cs : List AV), pre.length = k → vs.length = cs.length → setAt vs k (pre ++ cs) = pre ++ vs
  | k, pre, [], cs, _, h => by simp [setAt, List.eq_nil_of_length_eq_zero h.symm]
  | k, pre, v :: vs, [], _, h => by simp at h
  | k, pre, v :: vs, c :: cs, hp, h => by
    subst hp
    rw [setAt]
    have e : (pre ++ c :: cs).set pre.length v = (pre ++ [v]) ++ cs := by simp
    rw [e, setAt_full (pre.length + 1) (pre ++ [v]) vs cs (by simp) (by simpa using h)]
    simp
theorem w32s_clL (s : St) : ∀ l : List UInt32, s.clL (w32s l) = some (w32s l, [])
  | [] => rfl
  | c :: l => by
    show bindO (some (w32 c, [])) (fun x => bindO (s.clL (w32s l)) fun y => some (x.1 :: y.1, x.2 ++ y.2)) = _
    rw [w32s_clL s l]
    rfl
theorem nilL_one (l : List AV) : nilL [none] l = l := by cases l <;> simp [nilL, nilC]
theorem w32s_setAt (l l' : List UInt32) (h : l.length = l'.length) : setAt (w32s l) 0 (w32s l') = w32s l := by
  simpa using setAt_full 0 [] (w32s l) (w32s l') rfl (by simp [w32s_length, h])
def crcTab (n : Nat) : List UInt32 := (List.range n).map fun j => crcN 8 (UInt32.ofNat j)
theorem crcTab_length (n : Nat) : (crcTab n).length = n := by simp [crcTab]
attribute [go_sem] nilL_one w32s_clL w32s_length w32s_kill w32s_ok w32s_zeros w32s_set w32s_setAt crcTab_length
theorem u32_of_nat {i : Nat} (h : i < 4294967296) : IntKind.u32.wrap (i : Int) = ((UInt32.ofNat i).toNat : Int) := by
  rw [wrap_u32_lt h, UInt32.toNat_ofNat_of_lt' h]
theorem u32_bit (a : UInt32) : (a &&& 1).toNat = (a % 2).toNat := by
  rw [UInt32.toNat_and]
  simp [Nat.and_one_is_mod]
set_option maxRecDepth 4000 in
theorem c_crcTable : Meets Try.prog 223 [] (fun r => r = .agg (w32s (crcTab 256))) := by
  refine Meets.intro mixed (hint []) Try.func223 rfl (by decide) res_223 rty_223 (by kernel_rfl) ?_; 
  simp -dsimp -implicitDefEqProofs only [go_sem, Nat.reduceBEq, Nat.reduceAdd, Nat.reduceLeDiff, Nat.reduceSub, Int.reduceEq]
  refine LoopE.cnt 256 (fun i s => s.env 0 = .ptr [0] 0 0 0 ∧ s.env 1 = .ptr [1] 0 0 0 ∧ s.env 6 = .v (.int .i64 i) ∧
    s.σ [0] = some (.box 265 (w32s (List.replicate 256 0))) ∧ s.σ [1] = some (.box 265 (w32s (crcTab i ++ List.replicate (256 - i) 0)))) ⟨by simp -dsimp -implicitDefEqProofs only [go_sem, Nat.reduceBEq, Nat.reduceAdd, Nat.reduceLeDiff, Nat.reduceSub, Int.reduceEq], by simp -dsimp -implicitDefEqProofs only [go_sem, Nat.reduceBEq, Nat.reduceAdd, Nat.reduceLeDiff, Nat.reduceSub, Int.reduceEq], by simp -dsimp -implicitDefEqProofs only [go_sem, Nat.reduceBEq, Nat.reduceAdd, Nat.reduceLeDiff, Nat.reduceSub, Int.reduceEq], by simp -dsimp -implicitDefEqProofs only [go_sem, Nat.reduceBEq, Nat.reduceAdd, Nat.reduceLeDiff, Nat.reduceSub, Int.reduceEq], by simp -dsimp -implicitDefEqProofs only [go_sem, Nat.reduceBEq, Nat.reduceAdd, Nat.reduceLeDiff, Nat.reduceSub, Int.reduceEq] <;> rfl⟩ ?_
  rintro i ⟨e, σ⟩ hi ⟨h0, h1, h6, g0, g1⟩ K hK
  simp only at h0 h1 h6 g0 g1
  simp -dsimp -implicitDefEqProofs only [go_sem, Nat.reduceBEq, Nat.reduceAdd, Nat.reduceLeDiff, Nat.reduceSub, Int.reduceEq, h0, h1, h6, g0, g1]
  refine ifB'.of (fun hlt => ?_) (fun hlt => ?_)
  · have hlt : i < 256 := by omega
    simp -dsimp -implicitDefEqProofs only [go_sem, Nat.reduceBEq, Nat.reduceAdd, Nat.reduceLeDiff, Nat.reduceSub, Int.reduceEq, h0, h1, h6, g0, g1, u32_of_nat (show i < 4294967296 by omega)]
    refine LoopE.cnt 8 (fun j s => s.env 0 = .ptr [0] 0 0 0 ∧ s.env 1 = .ptr [1] 0 0 0 ∧ s.env 6 = .v (.int .i64 i) ∧ s.env 2 = .v (.int .i64 i) ∧ s.env 11 = .v (.int .i64 j) ∧ s.env 3 = .v (.int .u32 (crcN j (UInt32.ofNat i)).toNat) ∧
      s.σ [0] = some (.box 265 (w32s (List.replicate 256 0))) ∧ s.σ [1] = some (.box 265 (w32s (crcTab i ++ List.replicate (256 - i) 0)))) ⟨by simp -dsimp -implicitDefEqProofs only [go_sem, Nat.reduceBEq, Nat.reduceAdd, Nat.reduceLeDiff, Nat.reduceSub, Int.reduceEq, h0, h1, h6, g0, g1], by simp -dsimp -implicitDefEqProofs only [go_sem, Nat.reduceBEq, Nat.reduceAdd, Nat.reduceLeDiff, Nat.reduceSub, Int.reduceEq, h0, h1, h6, g0, g1], by simp -dsimp -implicitDefEqProofs only [go_sem, Nat.reduceBEq, Nat.reduceAdd, Nat.reduceLeDiff, Nat.reduceSub, Int.reduceEq, h0, h1, h6, g0, g1], by simp -dsimp -implicitDefEqProofs only [go_sem, Nat.reduceBEq, Nat.reduceAdd, Nat.reduceLeDiff, Nat.reduceSub, Int.reduceEq, h0, h1, h6, g0, g1], by simp -dsimp -implicitDefEqProofs only [go_sem, Nat.reduceBEq, Nat.reduceAdd, Nat.reduceLeDiff, Nat.reduceSub, Int.reduceEq, h0, h1, h6, g0, g1], by simp -dsimp -implicitDefEqProofs only [go_sem, Nat.reduceBEq, Nat.reduceAdd, Nat.reduceLeDiff, Nat.reduceSub, Int.reduceEq, h0, h1, h6, g0, g1, crcN], by simp -dsimp -implicitDefEqProofs only [go_sem, Nat.reduceBEq, Nat.reduceAdd, Nat.reduceLeDiff, Nat.reduceSub, Int.reduceEq, h0, h1, h6, g0, g1], by simp -dsimp -implicitDefEqProofs only [go_sem, Nat.reduceBEq, Nat.reduceAdd, Nat.reduceLeDiff, Nat.reduceSub, Int.reduceEq, h0, h1, h6, g0, g1]⟩ ?_
    rintro j ⟨e, σ⟩ hj ⟨h0, h1, h6, h2, h11, h3, g0, g1⟩ K' hK'
    simp only at h0 h1 h6 h2 h11 h3 g0 g1
    generalize hc : crcN j (UInt32.ofNat i) = c at h3
    simp -dsimp -implicitDefEqProofs only [go_sem, Nat.reduceBEq, Nat.reduceAdd, Nat.reduceLeDiff, Nat.reduceSub, Int.reduceEq, h0, h1, h6, h2, h11, h3, g0, g1]
    refine ifB'.of (fun hlt2 => ?_) (fun hlt2 => ?_)
    · simp -dsimp -implicitDefEqProofs only [go_sem, Nat.reduceBEq, Nat.reduceAdd, Nat.reduceLeDiff, Nat.reduceSub, Int.reduceEq, h0, h1, h6, h2, h11, h3, g0, g1, u32_and_one, u32_shr1, u32_bit]
      refine ask.of (by decide) ?_
      refine ifB'.of (fun hod => ?_) (fun hod => ?_)
      · simp -dsimp -implicitDefEqProofs only [go_sem, Nat.reduceBEq, Nat.reduceAdd, Nat.reduceLeDiff, Nat.reduceSub, Int.reduceEq, h0, h1, h6, h2, h11, h3, g0, g1, u32_xor_poly]
        refine hK' _ (by omega) ?_
        simp -dsimp -implicitDefEqProofs only [go_sem, Nat.reduceBEq, Nat.reduceAdd, Nat.reduceLeDiff, Nat.reduceSub, Int.reduceEq, h0, h1, h6, h2, h11, h3, g0, g1, wrap_succ (show j < 4611686018427387904 by omega)]
        rw [crcN, hc, crcStep, if_pos (UInt32.toNat_inj.1 (Int.ofNat_inj.1 hod))]
      · simp -dsimp -implicitDefEqProofs only [go_sem, Nat.reduceBEq, Nat.reduceAdd, Nat.reduceLeDiff, Nat.reduceSub, Int.reduceEq, h0, h1, h6, h2, h11, h3, g0, g1]
        refine hK' _ (by omega) ?_
        simp -dsimp -implicitDefEqProofs only [go_sem, Nat.reduceBEq, Nat.reduceAdd, Nat.reduceLeDiff, Nat.reduceSub, Int.reduceEq, h0, h1, h6, h2, h11, h3, g0, g1, wrap_succ (show j < 4611686018427387904 by omega)]
        rw [crcN, hc, crcStep, if_neg (fun e => hod (by rw [e]; rfl))]
    · have : j = 8 := by omega
      subst this
      simp -dsimp -implicitDefEqProofs only [go_sem, Nat.reduceBEq, Nat.reduceAdd, Nat.reduceLeDiff, Nat.reduceSub, Int.reduceEq, h0, h1, h6, h2, h11, h3, g0, g1]
      have hl : (crcTab i ++ List.replicate (256 - i) 0).length = 256 := by simp only [List.length_append, crcTab_length, List.length_replicate]; omega
      refine ask.of (by omega) (ask.of (by omega) (hK _ hlt ?_))
      simp -dsimp -implicitDefEqProofs only [go_sem, Nat.reduceBEq, Nat.reduceAdd, Nat.reduceLeDiff, Nat.reduceSub, Int.reduceEq, h0, h1, h6, h2, h11, h3, g0, g1, wrap_succ (show i < 4611686018427387904 by omega)]
      have e : 256 - i = (256 - (i + 1)) + 1 := by omega
      rw [Nat.mul_one, e, List.replicate_succ, List.set_append_right _ _ (by rw [crcTab_length]; exact Nat.le_refl _), crcTab_length, Nat.sub_self, List.set_cons_zero]
      have e2 : crcTab (i + 1) = crcTab i ++ [c] := by rw [crcTab, List.range_succ, List.map_append, ← hc]; rfl
      rw [e2, List.append_assoc]
      rfl
  · have : i = 256 := by omega
    subst this
    have e0 : crcTab 256 ++ List.replicate (256 - 256) 0 = crcTab 256 := List.append_nil _
    rw [e0] at g1
    have e1 : List.take 256 (w32s (crcTab 256)) = w32s (crcTab 256) := by
      exact List.take_of_length_le (by rw [w32s_length, crcTab_length]; exact Nat.le_refl _)
    have e2 : Nat.ble 256 256 = true := rfl
    simp -dsimp -implicitDefEqProofs only [go_sem, Nat.reduceBEq, Nat.reduceAdd, Nat.reduceLeDiff, Nat.reduceSub, Int.reduceEq, h0, h1, h6, g0, g1, e1, e2, w32s_setAt (crcTab 256) (List.replicate 256 0) (by rw [crcTab_length, List.length_replicate]), List.map_id', List.length_replicate]
def stB (x : BitVec 32) : BitVec 32 := (x >>> 1) ^^^ (if x.getLsbD 0 then 3988292384 else 0)
def stN : Nat → BitVec 32 → BitVec 32
  | 0, x => x
  | n + 1, x => stB (stN n x)
theorem crcStep_bv (c : UInt32) : (crcStep c).toBitVec = stB c.toBitVec := by
  have h1 : (c / 2).toBitVec = c.toBitVec >>> 1 := by
    apply BitVec.eq_of_toNat_eq
    simp [BitVec.toNat_ushiftRight, Nat.shiftRight_eq_div_pow]
  have h2 : c.toBitVec.getLsbD 0 = decide (c % 2 = 1) := by
    rw [BitVec.getLsbD, Nat.testBit_zero]
    congr 1
    rw [← UInt32.toNat_inj]
    simp
  unfold crcStep stB
  rw [h2]
  by_cases h : c % 2 = 1
  · simp only [h, if_true, decide_true]
    rw [UInt32.toBitVec_xor, h1]; rfl
  · simp only [h, if_false, decide_false]
    rw [h1]; simp
theorem crcN_bv (n : Nat) (c : UInt32) : (crcN n c).toBitVec = stN n c.toBitVec := by
  induction n with
  | zero => rfl
  | succ n ih => rw [crcN, crcStep_bv, ih]; rfl
theorem stB_xor (a b : BitVec 32) : stB (a ^^^ b) = stB a ^^^ stB b := by
  unfold stB
  rw [BitVec.ushiftRight_xor_distrib, BitVec.getLsbD_xor]
  cases a.getLsbD 0 <;> cases b.getLsbD 0 <;> simp
  · rw [BitVec.xor_assoc]
  · rw [BitVec.xor_assoc, BitVec.xor_assoc, BitVec.xor_comm (b >>> 1)]
  · rw [BitVec.xor_assoc, ← BitVec.xor_assoc (3988292384#32) (b >>> 1), BitVec.xor_comm (3988292384#32) (b >>> 1), BitVec.xor_assoc, BitVec.xor_self, BitVec.xor_zero]
theorem stN_xor (n : Nat) (a b : BitVec 32) : stN n (a ^^^ b) = stN n a ^^^ stN n b := by
  induction n with
  | zero => rfl
  | succ n ih => rw [stN, ih, stB_xor]; rfl
theorem stN_low (x : BitVec 32) (h : ∀ i, i < 8 → x.getLsbD i = false) : ∀ n, n ≤ 8 → stN n x = x >>> n
  | 0, _ => by simp [stN]
  | n + 1, hn => by
    rw [stN, stN_low x h n (by omega), stB]
    have : (x >>> n).getLsbD 0 = false := by rw [BitVec.getLsbD_ushiftRight]; simpa using h n (by omega)
    rw [this, ← BitVec.shiftRight_add]
    simp
theorem st8 (x : BitVec 32) : stN 8 x = (x >>> 8) ^^^ stN 8 (x &&& 255) := by
  have hx : x = (x &&& ~~~255#32) ^^^ (x &&& 255#32) := by
    apply BitVec.eq_of_getLsbD_eq
    intro i hi
    simp only [BitVec.getLsbD_xor, BitVec.getLsbD_and, BitVec.getLsbD_not, hi, decide_true, Bool.true_and]
    cases x.getLsbD i <;> cases (255#32).getLsbD i <;> rfl
  have h255 : ∀ i, (255#32).getLsbD i = decide (i < 8) := fun i => by
    have : (255#32).getLsbD i = (2 ^ 8 - 1).testBit i := rfl
    rw [this, Nat.testBit_two_pow_sub_one]
  have hlow : stN 8 (x &&& ~~~255#32) = (x &&& ~~~255#32) >>> 8 := stN_low _ (fun i hi => by
    rw [BitVec.getLsbD_and, BitVec.getLsbD_not, h255]; simp [hi]) 8 (Nat.le_refl _)
  have hs : (x &&& ~~~255#32) >>> 8 = x >>> 8 := by
    apply BitVec.eq_of_getLsbD_eq
    intro i hi
    rw [BitVec.getLsbD_ushiftRight, BitVec.getLsbD_ushiftRight, BitVec.getLsbD_and, BitVec.getLsbD_not, h255]
    by_cases h : 8 + i < 32
    · simp [h]
    · simp [BitVec.getLsbD_of_ge x (8 + i) (by omega)]
  conv => lhs; rw [hx]
  rw [stN_xor, hlow, hs]
  rfl
theorem crc_byte (c : UInt32) (b : UInt8) : crcN 8 (c ^^^ b.toUInt32) = (c >>> 8) ^^^ crcN 8 (UInt32.ofNat (c.toUInt8 ^^^ b).toNat) := by
  apply UInt32.toBitVec_inj.1
  rw [crcN_bv, UInt32.toBitVec_xor, st8, UInt32.toBitVec_xor, crcN_bv]
  have hb : b.toUInt32.toBitVec = b.toBitVec.setWidth 32 := rfl
  have h1 : (c.toBitVec ^^^ b.toUInt32.toBitVec) >>> 8 = (c >>> 8).toBitVec := by
    apply BitVec.eq_of_toNat_eq
    have hbl := b.toNat_lt
    rw [BitVec.ushiftRight_xor_distrib]
    have : b.toUInt32.toBitVec >>> 8 = 0#32 := by
      apply BitVec.eq_of_toNat_eq
      rw [BitVec.toNat_ushiftRight, Nat.shiftRight_eq_div_pow]
      have : b.toUInt32.toBitVec.toNat = b.toNat := by simp
      rw [this]; simp; omega
    rw [this, BitVec.xor_zero]
    rfl
  have h2 : (c.toBitVec ^^^ b.toUInt32.toBitVec) &&& 255 = (UInt32.ofNat (c.toUInt8 ^^^ b).toNat).toBitVec := by
    apply BitVec.eq_of_toNat_eq
    have h3 : (UInt32.ofNat (c.toUInt8 ^^^ b).toNat).toBitVec.toNat = (c.toUInt8 ^^^ b).toNat := by
      have := (c.toUInt8 ^^^ b).toNat_lt
      show (UInt32.ofNat (c.toUInt8 ^^^ b).toNat).toNat = _
      rw [UInt32.toNat_ofNat_of_lt' (by show _ < 4294967296; omega)]
    rw [h3, BitVec.toNat_and, BitVec.toNat_xor, UInt8.toNat_xor]
    have h4 : b.toUInt32.toBitVec.toNat = b.toNat := by simp
    have h5 : (255 : BitVec 32).toNat = 2 ^ 8 - 1 := rfl
    rw [h4, h5, Nat.and_two_pow_sub_one_eq_mod, Nat.xor_mod_two_pow]
    have h6 : c.toUInt8.toNat = c.toBitVec.toNat % 2 ^ 8 := by simp
    have hbl := b.toNat_lt
    rw [h6, Nat.mod_eq_of_lt (show b.toNat < 2 ^ 8 from hbl)]
  rw [h1, h2]
theorem u32_not (a : UInt32) : IntKind.u32.wrap ((BitVec.ofInt IntKind.u32.bits (if IntKind.u32.signed = true then -1 else IntKind.u32.max) ^^^ BitVec.ofInt IntKind.u32.bits (a.toNat : Int)).toNat : Int) = ((a ^^^ 4294967295).toNat : Int) := by
  have := u32_xor 4294967295 a
  rw [UInt32.xor_comm] at this
  exact this
theorem pureCs_w32s : ∀ l : List UInt32, pureCs (w32s l)
  | [] => trivial
  | c :: l => ⟨trivial, pureCs_w32s l⟩
theorem pure_w32s (l : List UInt32) : (AV.agg (w32s l)).pure := pureCs_w32s l
theorem w32s_opn (id : Id) : ∀ (l : List UInt32) (q : Nat), opnCs id q (w32s l) = (w32s l, [])
  | [], _ => rfl
  | c :: l, q => by
    have := w32s_opn id l (q + 1)
    show ((opnC id q (w32 c)).1 :: (opnCs id (q + 1) (w32s l)).1, (opnC id q (w32 c)).2 ++ (opnCs id (q + 1) (w32s l)).2) = _
    rw [this]; rfl
attribute [go_sem] w32s_opn
theorem crcTab_at {k : Nat} (h : k < 256) : (crcTab 256)[k]'(by rw [crcTab_length]; exact h) = crcN 8 (UInt32.ofNat k) := by simp [crcTab]
theorem c_implCrc32 (bs : List UInt8) (hb : bs.length ≤ 1048576) : Meets Try.prog 209 [rowB bs] (fun r => r = .v (.int .u32 (crcB bs).toNat)) := by
  refine Meets.intro mixed (hint []) Try.func209 rfl (by decide) res_209 rty_209 (by kernel_rfl) ?_; 
  simp -dsimp -implicitDefEqProofs only [go_sem, Nat.reduceBEq, Nat.reduceAdd, Nat.reduceLeDiff, Nat.reduceSub, Int.reduceEq]
  refine CallE.of c_crcTable (by rintro r rfl; exact pure_w32s _) (by simp -dsimp -implicitDefEqProofs only [go_sem, Nat.reduceBEq, Nat.reduceAdd, Nat.reduceLeDiff, Nat.reduceSub, Int.reduceEq]) ?_
  rintro r rfl
  simp -dsimp -implicitDefEqProofs only [go_sem, Nat.reduceBEq, Nat.reduceAdd, Nat.reduceLeDiff, Nat.reduceSub, Int.reduceEq, List.length_replicate]
  refine LoopE.cnt bs.length (fun i s => s.env 8 = .rd .ent 5 1 (bytesA bs) ∧ s.env 9 = .v (.int .i64 bs.length) ∧ s.env 10 = .v (.int .i64 i) ∧ s.env 3 = .ptr [3] 0 0 0 ∧
    s.env 4 = .v (.int .u32 (crcU 4294967295 (bs.take i)).toNat) ∧ s.σ [3] = some (.box 265 (w32s (crcTab 256)))) ⟨by simp -dsimp -implicitDefEqProofs only [go_sem, Nat.reduceBEq, Nat.reduceAdd, Nat.reduceLeDiff, Nat.reduceSub, Int.reduceEq, initE], by simp -dsimp -implicitDefEqProofs only [go_sem, Nat.reduceBEq, Nat.reduceAdd, Nat.reduceLeDiff, Nat.reduceSub, Int.reduceEq, initE], by simp -dsimp -implicitDefEqProofs only [go_sem, Nat.reduceBEq, Nat.reduceAdd, Nat.reduceLeDiff, Nat.reduceSub, Int.reduceEq], by simp -dsimp -implicitDefEqProofs only [go_sem, Nat.reduceBEq, Nat.reduceAdd, Nat.reduceLeDiff, Nat.reduceSub, Int.reduceEq], by simp -dsimp -implicitDefEqProofs only [go_sem, Nat.reduceBEq, Nat.reduceAdd, Nat.reduceLeDiff, Nat.reduceSub, Int.reduceEq, List.take_zero] <;> rfl, by simp -dsimp -implicitDefEqProofs only [go_sem, Nat.reduceBEq, Nat.reduceAdd, Nat.reduceLeDiff, Nat.reduceSub, Int.reduceEq]⟩ ?_
  rintro i ⟨e, σ⟩ hi ⟨h8, h9, h10, h3, h4, g3⟩ K hK
  simp only at h8 h9 h10 h3 h4 g3
  generalize hc : crcU 4294967295 (bs.take i) = c at h4
  simp -dsimp -implicitDefEqProofs only [go_sem, Nat.reduceBEq, Nat.reduceAdd, Nat.reduceLeDiff, Nat.reduceSub, Int.reduceEq, h8, h9, h10, h3, h4, g3]
  refine ifB'.of (fun hlt => ?_) (fun hlt => ?_)
  · have hlt : i < bs.length := by omega
    have e1 := bytesA_at hlt
    have hk : (c.toUInt8 ^^^ bs[i]).toNat < 256 := (c.toUInt8 ^^^ bs[i]).toNat_lt
    have e2 := w32s_at (l := crcTab 256) (i := (c.toUInt8 ^^^ bs[i]).toNat) (by rw [crcTab_length]; exact hk)
    have e3 : (w32s (crcTab 256))[(c.toUInt8 ^^^ bs[i]).toNat * 1]? = some (.v (.int .u32 (crcN 8 (UInt32.ofNat (c.toUInt8 ^^^ bs[i]).toNat)).toNat)) := by
      rw [Nat.mul_one, e2, crcTab_at hk]
    simp -dsimp -implicitDefEqProofs only [go_sem, Nat.reduceBEq, Nat.reduceAdd, Nat.reduceLeDiff, Nat.reduceSub, Int.reduceEq, h8, h9, h10, h3, h4, g3, e1, e3, u32_shr8, u8_of_u32, u8_xor, u32_xor]
    refine ask.of (by omega) ⟨by decide, ask.of (by omega) (hK _ hlt ?_)⟩
    simp -dsimp -implicitDefEqProofs only [go_sem, Nat.reduceBEq, Nat.reduceAdd, Nat.reduceLeDiff, Nat.reduceSub, Int.reduceEq, h8, h9, h10, h3, h4, g3, wrap_succ (show i < 4611686018427387904 by omega)]
    rw [List.take_succ_eq_append_getElem hlt, crcU_snoc, hc, crc_byte]
  · have : i = bs.length := by omega
    subst this
    rw [List.take_length] at hc
    simp -dsimp -implicitDefEqProofs only [go_sem, Nat.reduceBEq, Nat.reduceAdd, Nat.reduceLeDiff, Nat.reduceSub, Int.reduceEq, h8, h9, h10, h3, h4, g3, u32_not, ← hc]
    rfl
end Go.Ev
