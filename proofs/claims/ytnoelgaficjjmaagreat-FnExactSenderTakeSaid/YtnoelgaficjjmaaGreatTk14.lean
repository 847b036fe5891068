/- Part 14 of what the row leans on: the evaluator, words, contracts of functions; pruned by a program of ours. -/
import Derived.Test.YtnoelgaficjjmaaGreatTk13
set_option linter.unusedSimpArgs false
set_option linter.unusedVariables false
namespace Go.Ev
open Go Go.RowKit Go.Proofs
structure Ms where
  k : Int
  f : Int
  n : Int
  bs : List (List UInt8)
def msC (x : Ms) : List AV := [.v (.int .i64 x.k), .v (.int .i64 x.f), .v (.int .i64 x.n), .row 48 1 (ra byC x.bs)]
theorem bleM (n : Nat) : Nat.ble n n = true := by simp
def msOk (x : Ms) : Prop := 1 ≤ x.k ∧ x.k ≤ 4 ∧ 0 ≤ x.f ∧ x.f < 12 ∧ 0 ≤ x.n ∧ x.n ≤ 1000 ∧ x.bs.length ≤ 40 ∧ (x.f = 0 ∨ x.k = 2 ∨ x.k = 3)
instance (x : Ms) : Decidable (msOk x) := by unfold msOk; infer_instance
def lensB (bs : List (List UInt8)) : List UInt8 := bs.flatMap fun b => leB 4 b.length
theorem lensB_length (bs : List (List UInt8)) : (lensB bs).length = 4 * bs.length := by
  induction bs with
  | nil => rfl
  | cons b bs ih => rw [lensB, List.flatMap_cons, List.length_append, leB_length, List.length_cons]; rw [lensB] at ih; omega
theorem lensB_succ {bs : List (List UInt8)} {i : Nat} (h : i < bs.length) : lensB (bs.take i) ++ leB 4 bs[i].length = lensB (bs.take (i + 1)) := by
  rw [List.take_succ_eq_append_getElem h, lensB, lensB, List.flatMap_append]; simp
def headB (x : Ms) : List UInt8 := [67, 77, UInt8.ofNat x.k.toNat, UInt8.ofNat x.f.toNat, UInt8.ofNat (x.n.toNat % 256), UInt8.ofNat (x.n.toNat / 256 % 256), UInt8.ofNat x.bs.length, 0]
def msBody (x : Ms) : List UInt8 := sumB [headB x, joinA (lensB x.bs :: x.bs)]
def msGood (x : Ms) : Prop := msOk x ∧ wBB x.bs ≤ 20000 ∧ (msBody x).length ≤ 20000
instance (x : Ms) : Decidable (msGood x) := by unfold msGood; infer_instance
def encM (x : Ms) : List UInt8 := if msGood x then msBody x else []
theorem encM_no {x : Ms} (h : ¬ msGood x) : encM x = [] := if_neg h
theorem encM_yes {x : Ms} (h : msGood x) : encM x = msBody x := if_pos h
theorem joinA_len (xs : List (List UInt8)) : (joinA xs).length ≤ wBB xs + 7 * xs.length := by
  have := joinA_le xs xs.length (Nat.le_refl _)
  rw [List.take_length] at this
  exact this
theorem ms_b1 {x : Ms} (h : msOk x) : IntKind.u8.wrap x.k = ((UInt8.ofNat x.k.toNat).toNat : Int) := by
  obtain ⟨n, hn⟩ := Int.eq_ofNat_of_zero_le (show 0 ≤ x.k by have := h.1; omega)
  rw [hn]; exact u8_of_nat n
theorem ms_b2 {x : Ms} (h : msOk x) : IntKind.u8.wrap x.f = ((UInt8.ofNat x.f.toNat).toNat : Int) := by
  obtain ⟨n, hn⟩ := Int.eq_ofNat_of_zero_le (show 0 ≤ x.f by have := h.2.2.1; omega)
  rw [hn]; exact u8_of_nat n
theorem ms_b3 {x : Ms} (h : msOk x) : IntKind.u8.wrap x.n = ((UInt8.ofNat (x.n.toNat % 256)).toNat : Int) := by
  obtain ⟨n, hn⟩ := Int.eq_ofNat_of_zero_le (show 0 ≤ x.n by have := h.2.2.2.2.1; omega)
  rw [hn, u8_of_nat n]; simp
theorem ms_b4 {x : Ms} (h : msOk x) : IntKind.u8.wrap (x.n.fdiv (2 ^ min (Int.toNat 8) 64)) = ((UInt8.ofNat (x.n.toNat / 256 % 256)).toNat : Int) := by
  obtain ⟨n, hn⟩ := Int.eq_ofNat_of_zero_le (show 0 ≤ x.n by have := h.2.2.2.2.1; omega)
  rw [hn, show (2 : Int) ^ min (Int.toNat 8) 64 = 256 from rfl, Int.fdiv_eq_ediv_of_nonneg _ (by decide), show ((n : Int) / 256) = ((n / 256 : Nat) : Int) by omega, u8_of_nat]
  simp
theorem leB2 {x : Ms} (h : msOk x) : leB 2 x.n = [UInt8.ofNat (x.n.toNat % 256), UInt8.ofNat (x.n.toNat / 256 % 256)] := by
  have h1 := h.2.2.2.2.1
  have h2 := h.2.2.2.2.2.1
  have e : uN x.n = x.n.toNat := by unfold uN; omega
  simp [leB, e, List.range_succ]
theorem ms_good {x : Ms} (h : msOk x) (hw : wBB x.bs ≤ 20000) : (lensB x.bs :: x.bs).length + wBB (lensB x.bs :: x.bs) ≤ 20400 := by
  have h1 := h.2.2.2.2.2.2.1
  have : wBB (lensB x.bs :: x.bs) = 4 * x.bs.length + wBB x.bs := by simp [wBB, szL, lensB_length]
  rw [this, List.length_cons]; omega
end Go.Ev
set_option linter.unusedSimpArgs false
set_option linter.unusedVariables false
namespace Go.Ev
open Go Go.RowKit Go.Proofs
theorem ms_f {x : Ms} (h : ¬ msOk x) : false = decide (msOk x) := by rw [decide_eq_false h]
theorem ms_t {x : Ms} (h : msOk x) : true = decide (msOk x) := by rw [decide_eq_true h]
theorem ms_d {x : Ms} {q : Prop} [Decidable q] (h : q ↔ msOk x) : decide q = decide (msOk x) := by rw [decide_eq_decide.2 h]
set_option maxHeartbeats 2000000 in
theorem c_messageOk (x : Ms) (hx : x.bs.length ≤ 1048576) : Meets Tryz.prog 163 [.agg (msC x)] (fun r => r = .v (.bool (decide (msOk x)))) := by
  refine Meets.intro mixed (hint []) Tryz.func163 rfl (by decide) res_163 rty_163 (by kernel_rfl) ?_; 
  simp -dsimp -implicitDefEqProofs only [go_sem, msC]
  repeat' (first | with_reducible refine ifB'.of (fun h => ?_) (fun h => ?_) | with_reducible refine ask.of (by omega) ?_ | ((with_reducible refine ms_f ?_); unfold msOk; omega) | ((with_reducible refine ms_t ?_); unfold msOk; omega) | ((with_reducible refine ms_d ?_); unfold msOk; omega) | simp -dsimp -implicitDefEqProofs only [go_sem, decide_true, Bool.not_true, Bool.not_false])
theorem bytes4 (a b : UInt8) : [[AV.v (.int .u8 67)], [AV.v (.int .u8 77)], [AV.v (.int .u8 (a.toNat : Int))], [AV.v (.int .u8 (b.toNat : Int))]] = bytesA [67, 77, a, b] := rfl
theorem bytes2 (a : UInt8) : [[AV.v (.int .u8 (a.toNat : Int))], [AV.v (.int .u8 0)]] = bytesA [a, 0] := rfl
theorem bytes8 (a b c d e : UInt8) : [[AV.v (.int .u8 67)], [AV.v (.int .u8 77)], [AV.v (.int .u8 (a.toNat : Int))], [AV.v (.int .u8 (b.toNat : Int))], [AV.v (.int .u8 (c.toNat : Int))], [AV.v (.int .u8 (d.toNat : Int))], [AV.v (.int .u8 (e.toNat : Int))], [AV.v (.int .u8 0)]] = bytesA [67, 77, a, b, c, d, e, 0] := rfl
theorem c_specJoinAlignedL (l : List UInt8) (bs : List (List UInt8)) (h : (l :: bs).length + wBB (l :: bs) ≤ 1048576) : Meets Tryz.prog 147 [.row 48 1 ([.row 5 1 (bytesA l)] :: ra byE bs)] (fun r => r = rowB (joinA (l :: bs))) :=
  Meets.look (bs := [rowBB (l :: bs)]) ⟨Look.row ⟨⟨Look.refl _, trivial⟩, look_byE bs⟩, trivial⟩ (c_specJoinAligned (l :: bs) h)
theorem c_implJoinAlignedL (l : List UInt8) (bs : List (List UInt8)) (h : (l :: bs).length + wBB (l :: bs) ≤ 1048576) : Meets Tryz.prog 164 [.row 48 1 ([.row 5 1 (bytesA l)] :: ra byE bs)] (fun r => r = rowB (joinA (l :: bs))) :=
  Meets.look (bs := [rowBB (l :: bs)]) ⟨Look.row ⟨⟨Look.refl _, trivial⟩, look_byE bs⟩, trivial⟩ (c_implJoinAligned (l :: bs) h)
theorem msBody_eq (x : Ms) : msBody x = headB x ++ joinA (lensB x.bs :: x.bs) ++ leB 4 (crcB (headB x ++ joinA (lensB x.bs :: x.bs))).toNat := by simp [msBody, sumB]
set_option maxHeartbeats 1000000 in
theorem c_l4encode (x : Ms) (h : msOk x) (hw : wBB x.bs ≤ 20000) : Meets Tryz.prog 111 [.agg (msC x)] (fun r => r = rowB (msBody x)) := by
  refine Meets.intro mixed (hint [(3, 148)]) Tryz.func111 rfl (by decide) res_111 rty_111 (by kernel_rfl) ?_; 
  have hl := h.2.2.2.2.2.2.1
  simp -dsimp -implicitDefEqProofs only [go_sem, msC]
  refine LoopE.cnt x.bs.length (fun i s => s.env 1 = .ptr [1] 0 0 0 ∧ s.env 3 = .ref [3] ∧ s.env 4 = .v (.int .i64 i) ∧ s.σ [1] = some (.box 139 [.v (.int .i64 x.k), .v (.int .i64 x.f), .v (.int .i64 x.n), .rd .ent 48 1 (ra byC x.bs)]) ∧ s.σ [3] = some (.row 5 1 (bytesA (lensB (x.bs.take i))))) ⟨by simp -dsimp -implicitDefEqProofs only [go_sem], by simp -dsimp -implicitDefEqProofs only [go_sem], by simp -dsimp -implicitDefEqProofs only [go_sem], by simp -dsimp -implicitDefEqProofs only [go_sem], by simp -dsimp -implicitDefEqProofs only [go_sem] <;> rfl⟩ ?_
  rintro i ⟨e, σ⟩ hi ⟨h1, h3, h4, hs1, hs3⟩ K hK
  simp only at h1 h3 h4 hs1 hs3
  simp -dsimp -implicitDefEqProofs only [go_sem, h1, h3, h4, hs1, hs3]
  repeat (first | with_reducible refine ask.of (by first | omega | decide) ?_ | simp -dsimp -implicitDefEqProofs only [go_sem, h1, h3, h4, hs1, hs3, bleM])
  refine ifB'.of (fun hlt => ?_) (fun hlt => ?_)
  · have hlt : i < x.bs.length := by omega
    have hll := lensB_length (x.bs.take i)
    have htl : (x.bs.take i).length = i := by simp; omega
    simp -dsimp -implicitDefEqProofs only [go_sem, h1, h3, h4, hs1, hs3, byA_at hlt]
    repeat (first | with_reducible refine ask.of (by first | omega | decide) ?_ | simp -dsimp -implicitDefEqProofs only [go_sem, h1, h3, h4, hs1, hs3, byA_at hlt, bleM])
    refine CallE.of (c_l1little x.bs[i].length 4 (by omega)) (by rintro r rfl; (repeat' first | exact trivial | exact pure_rowB _ | exact pure_rowO _ | exact pure_rowI _ | exact pure_rowBB _ | exact pure_rowPk _ _ | exact pure_rowSn _ _ | exact pure_rowFd _ _ | exact pure_rowBBB _ | exact pure_rowCl _ _ | exact pure_rowTb _ _ _ | refine And.intro ?_ ?_)) (by simp -dsimp -implicitDefEqProofs only [go_sem, h1, h3, h4, hs1, hs3, show ((4 : Nat) : Int) = 4 from rfl]) ?_
    rintro r rfl
    simp -dsimp -implicitDefEqProofs only [go_sem, h1, h3, h4, hs1, hs3, show ((4 : Nat) : Int) = 4 from rfl]
    repeat (first | with_reducible refine ask.of (by first | omega | (rw [hll, htl, leB_length]; omega)) ?_ | simp -dsimp -implicitDefEqProofs only [go_sem, h1, h3, h4, hs1, hs3, leB_length])
    refine hK _ hlt ?_
    simp -dsimp -implicitDefEqProofs only [go_sem, h1, h3, h4, hs1, hs3, wrap_succ (show i < 4611686018427387904 by omega), lensB_succ hlt]
  · have : i = x.bs.length := by omega
    subst this
    rw [List.take_length] at hs3
    have hg := ms_good h hw
    have hj := joinA_len (lensB x.bs :: x.bs)
    have hll := lensB_length x.bs
    simp -dsimp -implicitDefEqProofs only [go_sem, h1, h3, h4, hs1, hs3, ms_b1 h, ms_b2 h]
    repeat (first | with_reducible refine ask.of (by first | omega | decide) ?_ | simp -dsimp -implicitDefEqProofs only [go_sem, h1, h3, h4, hs1, hs3, bleM, ms_b1 h, ms_b2 h, bytes4])
    refine CallE.of (c_l1little x.n 2 (by omega)) (by rintro r rfl; (repeat' first | exact trivial | exact pure_rowB _ | exact pure_rowO _ | exact pure_rowI _ | exact pure_rowBB _ | exact pure_rowPk _ _ | exact pure_rowSn _ _ | exact pure_rowFd _ _ | exact pure_rowBBB _ | exact pure_rowCl _ _ | exact pure_rowTb _ _ _ | refine And.intro ?_ ?_)) (by simp -dsimp -implicitDefEqProofs only [go_sem, h1, h3, h4, hs1, hs3, show ((2 : Nat) : Int) = 2 from rfl]) ?_
    rintro r rfl
    simp -dsimp -implicitDefEqProofs only [go_sem, h1, h3, h4, hs1, hs3, show ((2 : Nat) : Int) = 2 from rfl]
    repeat (first | with_reducible refine ask.of (by first | omega | (simp only [List.length_append, List.length_cons, List.length_nil, leB_length]; omega)) ?_ | simp -dsimp -implicitDefEqProofs only [go_sem, h1, h3, h4, hs1, hs3, bleM, leB_length, u8_of_nat, bytes2, byE_asrw])
    refine CallE.of (c_specJoinAlignedL (lensB x.bs) x.bs (by omega)) (by rintro r rfl; (repeat' first | exact trivial | exact pure_rowB _ | exact pure_rowO _ | exact pure_rowI _ | exact pure_rowBB _ | exact pure_rowPk _ _ | exact pure_rowSn _ _ | exact pure_rowFd _ _ | exact pure_rowBBB _ | exact pure_rowCl _ _ | exact pure_rowTb _ _ _ | refine And.intro ?_ ?_)) (by simp -dsimp -implicitDefEqProofs only [go_sem, h1, h3, h4, hs1, hs3]) ?_
    rintro r rfl
    simp -dsimp -implicitDefEqProofs only [go_sem, h1, h3, h4, hs1, hs3]
    have hjl : (headB x ++ joinA (lensB x.bs :: x.bs)).length ≤ 30000 := by
      have : wBB (lensB x.bs :: x.bs) = 4 * x.bs.length + wBB x.bs := by simp [wBB, szL, lensB_length]
      simp only [List.length_append, headB, List.length_cons, List.length_nil] at hj ⊢
      omega
    have hjl2 : (joinA (lensB x.bs :: x.bs)).length ≤ 30000 := by rw [List.length_append] at hjl; omega
    repeat (first | with_reducible refine ask.of (by first | omega | (simp only [List.length_append, List.length_cons, List.length_nil, leB_length]; omega)) ?_ | simp -dsimp -implicitDefEqProofs only [go_sem, h1, h3, h4, hs1, hs3, bleM, leB_length])
    refine CallE.of (c_specCrc32 (headB x ++ joinA (lensB x.bs :: x.bs)) (by omega)) (by rintro r rfl; (repeat' first | exact trivial | exact pure_rowB _ | exact pure_rowO _ | exact pure_rowI _ | exact pure_rowBB _ | exact pure_rowPk _ _ | exact pure_rowSn _ _ | exact pure_rowFd _ _ | exact pure_rowBBB _ | exact pure_rowCl _ _ | exact pure_rowTb _ _ _ | refine And.intro ?_ ?_)) (by simp -dsimp -implicitDefEqProofs only [go_sem, h1, h3, h4, hs1, hs3, headB, leB2 h, List.cons_append, List.nil_append, List.append_assoc]) ?_
    rintro r rfl
    simp -dsimp -implicitDefEqProofs only [go_sem, h1, h3, h4, hs1, hs3, headB, leB2 h, List.cons_append, List.nil_append, List.append_assoc]
    simp -dsimp -implicitDefEqProofs only [go_sem, h1, h3, h4, hs1, hs3, wrap_u32i]
    refine CallE.of (c_l1little (crcB (headB x ++ joinA (lensB x.bs :: x.bs))).toNat 4 (by omega)) (by rintro r rfl; (repeat' first | exact trivial | exact pure_rowB _ | exact pure_rowO _ | exact pure_rowI _ | exact pure_rowBB _ | exact pure_rowPk _ _ | exact pure_rowSn _ _ | exact pure_rowFd _ _ | exact pure_rowBBB _ | exact pure_rowCl _ _ | exact pure_rowTb _ _ _ | refine And.intro ?_ ?_)) (by simp -dsimp -implicitDefEqProofs only [go_sem, h1, h3, h4, hs1, hs3, show ((4 : Nat) : Int) = 4 from rfl, headB, leB2 h, List.cons_append, List.nil_append, List.append_assoc]) ?_
    rintro r rfl
    simp -dsimp -implicitDefEqProofs only [go_sem, h1, h3, h4, hs1, hs3, show ((4 : Nat) : Int) = 4 from rfl, headB, leB2 h, List.cons_append, List.nil_append, List.append_assoc]
    repeat (first | with_reducible refine ask.of (by first | omega | (simp only [List.length_append, List.length_cons, List.length_nil, leB_length]; omega)) ?_ | simp -dsimp -implicitDefEqProofs only [go_sem, h1, h3, h4, hs1, hs3, bleM, leB_length])
    simp [msBody_eq, headB, leB2 h]
end Go.Ev
set_option linter.unusedSimpArgs false
set_option linter.unusedVariables false
namespace Go.Ev
open Go Go.RowKit Go.Proofs
theorem em_f {x : Ms} (h : ¬ msGood x) : AV.row 5 1 [] = AV.row 5 1 (bytesA (encM x)) := by rw [encM_no h]; rfl
theorem em_ok {x : Ms} (h : ¬ msOk x) : AV.row 5 1 [] = AV.row 5 1 (bytesA (encM x)) := em_f (fun h' => h h'.1)
theorem byC2 (a b : List UInt8) : ra byC [a, b] = [[.row 5 1 (bytesA a)], [.row 5 1 (bytesA b)]] := rfl
set_option maxHeartbeats 2000000 in
theorem c_implEncodeMessage (x : Ms) (hx : x.bs.length + wBB x.bs ≤ 1048576) : Meets Tryz.prog 152 [.agg (msC x)] (fun r => r = rowB (encM x)) := by
  refine Meets.intro mixed (hint []) Tryz.func152 rfl (by decide) res_152 rty_152 (by kernel_rfl) ?_; 
  simp -dsimp -implicitDefEqProofs only [go_sem, msC]
  repeat (first | with_reducible refine ask.of (by first | omega | decide) ?_ | simp -dsimp -implicitDefEqProofs only [go_sem, bleM])
  refine CallE.of (c_messageOk x (by omega)) (by rintro r rfl; (repeat' first | exact trivial | exact pure_rowB _ | exact pure_rowO _ | exact pure_rowI _ | exact pure_rowBB _ | exact pure_rowPk _ _ | exact pure_rowSn _ _ | exact pure_rowFd _ _ | exact pure_rowBBB _ | exact pure_rowCl _ _ | exact pure_rowTb _ _ _ | refine And.intro ?_ ?_)) (by simp -dsimp -implicitDefEqProofs only [go_sem, msC]) ?_
  rintro r rfl
  simp -dsimp -implicitDefEqProofs only [go_sem, msC]
  by_cases hok : msOk x
  case neg =>
    simp -dsimp -implicitDefEqProofs only [go_sem, decide_eq_false hok, Bool.not_false]
    exact em_ok hok
  have hl := hok.2.2.2.2.2.2.1
  simp -dsimp -implicitDefEqProofs only [go_sem, decide_eq_true hok, Bool.not_true]
  repeat (first | with_reducible refine ask.of (by first | omega | decide) ?_ | simp -dsimp -implicitDefEqProofs only [go_sem, bleM])
  refine LoopE.cnt x.bs.length (fun i s => s.env 1 = .ptr [1] 0 0 0 ∧ s.env 3 = .ref [12] ∧ s.env 4 = .v (.int .i64 (wBB (x.bs.take i) : Nat)) ∧ s.env 14 = .rd .ent 48 1 (ra byC x.bs) ∧ s.env 15 = .v (.int .i64 x.bs.length) ∧ s.env 16 = .v (.int .i64 i) ∧ s.σ [1] = some (.box 139 [.v (.int .i64 x.k), .v (.int .i64 x.f), .v (.int .i64 x.n), .rd .ent 48 1 (ra byC x.bs)]) ∧ s.σ [12] = some (.row 5 1 (bytesA (lensB (x.bs.take i)))) ∧ wBB (x.bs.take i) ≤ 20000) ⟨by simp -dsimp -implicitDefEqProofs only [go_sem], by simp -dsimp -implicitDefEqProofs only [go_sem], by simp -dsimp -implicitDefEqProofs only [go_sem] <;> rfl, by simp -dsimp -implicitDefEqProofs only [go_sem], by simp -dsimp -implicitDefEqProofs only [go_sem], by simp -dsimp -implicitDefEqProofs only [go_sem], by simp -dsimp -implicitDefEqProofs only [go_sem], by simp -dsimp -implicitDefEqProofs only [go_sem] <;> rfl, by simp [wBB, szL]⟩ ?_
  rintro i ⟨e, σ⟩ hi ⟨h1, h3, h4, h14, h15, h16, hs1, hs12, hw⟩ K hK
  simp only at h1 h3 h4 h14 h15 h16 hs1 hs12
  simp -dsimp -implicitDefEqProofs only [go_sem, h1, h3, h4, h14, h15, h16, hs1, hs12]
  refine ifB'.of (fun hlt => ?_) (fun hlt => ?_)
  · have hlt : i < x.bs.length := by omega
    have hs : wBB (x.bs.take (i + 1)) = wBB (x.bs.take i) + x.bs[i].length := szL_take_succ List.length hlt
    have hsl : wBB (x.bs.take (i + 1)) ≤ wBB x.bs := szL_take_le List.length x.bs (i + 1)
    have e1 : IntKind.i64.wrap ((wBB (x.bs.take i) : Int) + x.bs[i].length) = (wBB (x.bs.take (i + 1)) : Nat) := by rw [wrap_i64_of (by omega) (by omega), hs]; omega
    have hll := lensB_length (x.bs.take i)
    have htl : (x.bs.take i).length = i := by simp; omega
    simp -dsimp -implicitDefEqProofs only [go_sem, h1, h3, h4, h14, h15, h16, hs1, hs12, byA_at hlt, e1]
    repeat (first | with_reducible refine ask.of (by first | omega | decide) ?_ | simp -dsimp -implicitDefEqProofs only [go_sem, h1, h3, h4, h14, h15, h16, hs1, hs12, byA_at hlt, bleM, e1])
    refine ifB'.of (fun hg => ?_) (fun hg => ?_)
    · simp -dsimp -implicitDefEqProofs only [go_sem, h1, h3, h4, h14, h15, h16, hs1, hs12]
      exact em_f (fun h' => by have := h'.2.1; omega)
    simp -dsimp -implicitDefEqProofs only [go_sem, h1, h3, h4, h14, h15, h16, hs1, hs12]
    refine CallE.of (c_number x.bs[i].length 4 (by omega)) (by rintro r rfl; (repeat' first | exact trivial | exact pure_rowB _ | exact pure_rowO _ | exact pure_rowI _ | exact pure_rowBB _ | exact pure_rowPk _ _ | exact pure_rowSn _ _ | exact pure_rowFd _ _ | exact pure_rowBBB _ | exact pure_rowCl _ _ | exact pure_rowTb _ _ _ | refine And.intro ?_ ?_)) (by simp -dsimp -implicitDefEqProofs only [go_sem, h1, h3, h4, h14, h15, h16, hs1, hs12, show ((4 : Nat) : Int) = 4 from rfl]) ?_
    rintro r rfl
    simp -dsimp -implicitDefEqProofs only [go_sem, h1, h3, h4, h14, h15, h16, hs1, hs12, show ((4 : Nat) : Int) = 4 from rfl]
    repeat (first | with_reducible refine ask.of (by first | omega | (rw [hll, htl, leB_length]; omega)) ?_ | simp -dsimp -implicitDefEqProofs only [go_sem, h1, h3, h4, h14, h15, h16, hs1, hs12, leB_length])
    refine hK _ hlt ?_
    simp -dsimp -implicitDefEqProofs only [go_sem, h1, h3, h4, h14, h15, h16, hs1, hs12, wrap_succ (show i < 4611686018427387904 by omega), lensB_succ hlt, e1]
    omega
  · have : i = x.bs.length := by omega
    subst this
    rw [List.take_length] at hs12 hw
    have hg := ms_good hok hw
    have hj := joinA_len (lensB x.bs :: x.bs)
    have hll := lensB_length x.bs
    have hjl2 : (joinA (lensB x.bs :: x.bs)).length ≤ 30000 := by
      have : wBB (lensB x.bs :: x.bs) = 4 * x.bs.length + wBB x.bs := by simp [wBB, szL, lensB_length]
      simp only [List.length_cons] at hj ⊢
      omega
    simp -dsimp -implicitDefEqProofs only [go_sem, h1, h3, h4, h14, h15, h16, hs1, hs12, ms_b1 hok, ms_b2 hok, ms_b3 hok, ms_b4 hok]
    repeat (first | with_reducible refine ask.of (by first | omega | decide) ?_ | simp -dsimp -implicitDefEqProofs only [go_sem, h1, h3, h4, h14, h15, h16, hs1, hs12, bleM, ms_b1 hok, ms_b2 hok, ms_b3 hok, ms_b4 hok, u8_of_nat, bytes8, byE_asrw])
    refine CallE.of (c_implJoinAlignedL (lensB x.bs) x.bs (by omega)) (by rintro r rfl; (repeat' first | exact trivial | exact pure_rowB _ | exact pure_rowO _ | exact pure_rowI _ | exact pure_rowBB _ | exact pure_rowPk _ _ | exact pure_rowSn _ _ | exact pure_rowFd _ _ | exact pure_rowBBB _ | exact pure_rowCl _ _ | exact pure_rowTb _ _ _ | refine And.intro ?_ ?_)) (by simp -dsimp -implicitDefEqProofs only [go_sem, h1, h3, h4, h14, h15, h16, hs1, hs12]) ?_
    rintro r rfl
    simp -dsimp -implicitDefEqProofs only [go_sem, h1, h3, h4, h14, h15, h16, hs1, hs12]
    repeat (first | with_reducible refine ask.of (by first | omega | decide) ?_ | simp -dsimp -implicitDefEqProofs only [go_sem, h1, h3, h4, h14, h15, h16, hs1, hs12, bleM])
    refine CallE.of (c_summed [headB x, joinA (lensB x.bs :: x.bs)] (by simp [wBB, szL, headB]; omega)) (by rintro r rfl; (repeat' first | exact trivial | exact pure_rowB _ | exact pure_rowO _ | exact pure_rowI _ | exact pure_rowBB _ | exact pure_rowPk _ _ | exact pure_rowSn _ _ | exact pure_rowFd _ _ | exact pure_rowBBB _ | exact pure_rowCl _ _ | exact pure_rowTb _ _ _ | refine And.intro ?_ ?_)) (by simp -dsimp -implicitDefEqProofs only [go_sem, h1, h3, h4, h14, h15, h16, hs1, hs12, byC2, headB]) ?_
    rintro r rfl
    simp -dsimp -implicitDefEqProofs only [go_sem, h1, h3, h4, h14, h15, h16, hs1, hs12, byC2, headB]
    refine ifB'.of (fun hg2 => ?_) (fun hg2 => ?_)
    · simp -dsimp -implicitDefEqProofs only [go_sem, h1, h3, h4, h14, h15, h16, hs1, hs12]
      refine em_f (fun h' => ?_)
      have := h'.2.2
      unfold msBody headB at this
      omega
    · simp -dsimp -implicitDefEqProofs only [go_sem, h1, h3, h4, h14, h15, h16, hs1, hs12]
      rw [encM_yes ⟨hok, hw, by unfold msBody headB; omega⟩]
      rfl
end Go.Ev
set_option linter.unusedSimpArgs false
set_option linter.unusedVariables false
namespace Go.Ev
open Go Go.RowKit Go.Proofs
def bbC (xs : List (List UInt8)) : List AV := [.row 48 1 (ra byC xs)]
def rowBBB (xs : List (List (List UInt8))) : AV := .row 132 1 (ra bbC xs)
def bbW (xs : List (List UInt8)) : Nat := xs.length + wBB xs
theorem bbA_at {xs : List (List (List UInt8))} {i : Nat} (h : i < xs.length) : (ra bbC xs)[i]? = some [.row 48 1 (ra byC xs[i])] := ra_at h
theorem bbA_set (xs : List (List (List UInt8))) (i : Nat) (b : List (List UInt8)) : (ra bbC xs).set i [.row 48 1 (ra byC b)] = ra bbC (xs.set i b) := ra_set xs i b
theorem bbA_zeros (n : Nat) : List.replicate n [AV.row 48 1 []] = ra bbC (List.replicate n []) := by simp [ra, bbC]
theorem pure_rowBBB (xs : List (List (List UInt8))) : (rowBBB xs).pure := pureEls_ra (enc := bbC) (fun x => ⟨pureEls_ra (enc := byC) pure_byC x, trivial⟩) xs
theorem mem_bbW {xs : List (List (List UInt8))} {b : List (List UInt8)} (h : b ∈ xs) : b.length + wBB b ≤ szL bbW xs := by
  obtain ⟨i, hi, rfl⟩ := List.mem_iff_getElem.1 h
  have := szL_at_le bbW hi
  have : bbW xs[i] = xs[i].length + wBB xs[i] := rfl
  omega
def lenOk (xs : List (List UInt8)) (n : Nat) : Prop := xs.length ≤ n ∧ ∀ b ∈ xs, b.length ≤ n
theorem c_szByteSSS (xs : List (List (List UInt8))) (left : Nat) (hl : left ≤ 1048576) (hx : xs.length ≤ 140737488355328) (hb : ∀ b ∈ xs, lenOk b 140737488355328) : Meets Tryz.prog 51 [rowBBB xs, .v (.int .i64 left)] (fun r => r = .v (.int .i64 (szR left (xs.length + szL bbW xs)))) := by
  refine Meets.intro mixed (hint []) Tryz.func51 rfl (by decide) res_51 rty_51 (by kernel_rfl) ?_; 
  have e : IntKind.i64.wrap ((left : Int) - xs.length) = (left : Int) - xs.length := wrap_i64_of (by omega) (by omega)
  simp -dsimp -implicitDefEqProofs only [go_sem, e, rowBBB]
  refine ifB'.of (fun h => ?_) (fun h => ?_)
  · simp -dsimp -implicitDefEqProofs only [go_sem]
    rw [szR_no (by omega)]
  simp -dsimp -implicitDefEqProofs only [go_sem, e]
  refine LoopE.cnt xs.length (fun i s => s.env 0 = .rd .ent 132 1 (ra bbC xs) ∧ s.env 5 = .v (.int .i64 i) ∧ xs.length + szL bbW (xs.take i) ≤ left ∧ s.env 1 = .v (.int .i64 ((left - (xs.length + szL bbW (xs.take i)) : Nat) : Int))) ⟨by simp -dsimp -implicitDefEqProofs only [go_sem, initE, rowBBB], by simp -dsimp -implicitDefEqProofs only [go_sem] <;> simp, by simp [szL]; omega, by simp -dsimp -implicitDefEqProofs only [go_sem] <;> (simp [szL]; omega)⟩ ?_
  rintro i ⟨e, σ⟩ hi ⟨h0, h5, hle, h1⟩ K hK
  simp only at h0 h5 h1
  simp -dsimp -implicitDefEqProofs only [go_sem, h0, h5, h1]
  refine ifB'.of (fun hlt => ?_) (fun hlt => ?_)
  · have hlt : i < xs.length := by omega
    have hs := szL_take_succ bbW hlt
    have hw := szL_take_le bbW xs (i + 1)
    have hww : bbW xs[i] = xs[i].length + wBB xs[i] := rfl
    have hbi := hb _ (List.getElem_mem hlt)
    simp -dsimp -implicitDefEqProofs only [go_sem, h0, h5, h1, bbA_at hlt]
    repeat with_reducible refine ask.of (by omega) ?_
    refine CallE.of (c_szByteSS xs[i] (left - (xs.length + szL bbW (xs.take i))) (by omega) hbi.1 hbi.2) (by rintro r rfl; (repeat' first | exact trivial | exact pure_rowB _ | exact pure_rowO _ | exact pure_rowI _ | exact pure_rowBB _ | exact pure_rowPk _ _ | exact pure_rowSn _ _ | exact pure_rowFd _ _ | exact pure_rowBBB _ | exact pure_rowCl _ _ | exact pure_rowTb _ _ _ | refine And.intro ?_ ?_)) (by simp -dsimp -implicitDefEqProofs only [go_sem, h0, h5, h1]) ?_
    rintro r rfl
    simp -dsimp -implicitDefEqProofs only [go_sem, h0, h5, h1]
    refine ifB'.of (fun hn => ?_) (fun hn => ?_)
    · have : ¬ xs[i].length + wBB xs[i] ≤ left - (xs.length + szL bbW (xs.take i)) := fun h => by rw [szR_ok h] at hn; omega
      simp -dsimp -implicitDefEqProofs only [go_sem, h0, h5, h1]
      rw [szR_no (by omega)]
    · have h : xs[i].length + wBB xs[i] ≤ left - (xs.length + szL bbW (xs.take i)) := Classical.byContradiction fun h => by rw [szR_no h] at hn; omega
      simp -dsimp -implicitDefEqProofs only [go_sem, h0, h5, h1]
      refine hK _ hlt ?_
      simp -dsimp -implicitDefEqProofs only [go_sem, h0, h5, h1, wrap_succ (show i < 4611686018427387904 by omega), szR_ok h, hs]
      exact ⟨by omega, by omega⟩
  · have : i = xs.length := by omega
    subst this
    simp -dsimp -implicitDefEqProofs only [go_sem, h0, h5, h1]
    rw [List.take_length] at hle ⊢
    rw [szR_ok (by omega)]
theorem c_toByteSSS (xs : List (List (List UInt8))) (hx : xs.length ≤ 1048576) (hb : ∀ b ∈ xs, lenOk b 1048576) : Meets Tryz.prog 65 [rowBBB xs] (fun r => r = rowBBB xs) := by
  refine Meets.intro mixed (hint []) Tryz.func65 rfl (by decide) res_65 rty_65 (by kernel_rfl) ?_; 
  simp -dsimp -implicitDefEqProofs only [go_sem, rowBBB]
  refine ask.of (by omega) ?_
  refine LoopE.cnt xs.length (fun i s => s.env 0 = .rd .ent 132 1 (ra bbC xs) ∧ s.env 3 = .ref [7] ∧ s.env 4 = .v (.int .i64 i) ∧ s.σ [7] = some (.row 132 1 (ra bbC (xs.take i ++ List.replicate (xs.length - i) [])))) ⟨by simp -dsimp -implicitDefEqProofs only [go_sem, initE, rowBBB], by simp -dsimp -implicitDefEqProofs only [go_sem], by simp -dsimp -implicitDefEqProofs only [go_sem] <;> simp, by simp -dsimp -implicitDefEqProofs only [go_sem, bbA_zeros] <;> simp⟩ ?_
  rintro i ⟨e, σ⟩ hi ⟨h0, h3, h4, hs⟩ K hK
  simp only at h0 h3 h4 hs
  simp -dsimp -implicitDefEqProofs only [go_sem, h0, h3, h4, hs]
  refine ifB'.of (fun hlt => ?_) (fun hlt => ?_)
  · have hlt : i < xs.length := by omega
    have hbi := hb _ (List.getElem_mem hlt)
    simp -dsimp -implicitDefEqProofs only [go_sem, h0, h3, h4, hs, bbA_at hlt]
    repeat with_reducible refine ask.of (by omega) ?_
    refine CallE.of (c_toByteSS xs[i] hbi.1 hbi.2) (by rintro r rfl; (repeat' first | exact trivial | exact pure_rowB _ | exact pure_rowO _ | exact pure_rowI _ | exact pure_rowBB _ | exact pure_rowPk _ _ | exact pure_rowSn _ _ | exact pure_rowFd _ _ | exact pure_rowBBB _ | exact pure_rowCl _ _ | exact pure_rowTb _ _ _ | refine And.intro ?_ ?_)) (by simp -dsimp -implicitDefEqProofs only [go_sem, h0, h3, h4, hs]) ?_
    rintro r rfl
    simp -dsimp -implicitDefEqProofs only [go_sem, h0, h3, h4, hs]
    have hl : (List.take i xs ++ List.replicate (xs.length - i) []).length = xs.length := by simp; omega
    simp -dsimp -implicitDefEqProofs only [go_sem, h0, h3, h4, hs, hl]
    repeat with_reducible refine ask.of (by omega) ?_
    simp -dsimp -implicitDefEqProofs only [go_sem, h0, h3, h4, hs, bbA_at (show i < (List.take i xs ++ List.replicate (xs.length - i) []).length by omega)]
    refine hK _ hlt ?_
    simp -dsimp -implicitDefEqProofs only [go_sem, h0, h3, h4, hs, wrap_succ (show i < 4611686018427387904 by omega), bbA_set, fill_set xs [] hlt]
  · have : i = xs.length := by omega
    subst this
    simp -dsimp -implicitDefEqProofs only [go_sem, h0, h3, h4, hs]
    simp
theorem c_eqByteSSS (xs : List (List (List UInt8))) (hx : xs.length ≤ 8388608) (hb : ∀ b ∈ xs, lenOk b 1048576) : Meets Tryz.prog 81 [rowBBB xs, rowBBB xs] (fun r => r = .v (.bool true)) := by
  refine Meets.intro mixed (hint []) Tryz.func81 rfl (by decide) res_81 rty_81 (by kernel_rfl) ?_; 
  simp -dsimp -implicitDefEqProofs only [go_sem, decide_true, Bool.not_true, rowBBB]
  refine LoopE.cnt xs.length (fun i s => s.env 0 = .rd .ent 132 1 (ra bbC xs) ∧ s.env 1 = .rd .ent 132 1 (ra bbC xs) ∧ s.env 5 = .v (.int .i64 i)) ⟨by simp -dsimp -implicitDefEqProofs only [go_sem, initE, rowBBB], by simp -dsimp -implicitDefEqProofs only [go_sem, initE, rowBBB], by simp -dsimp -implicitDefEqProofs only [go_sem] <;> simp⟩ ?_
  rintro i ⟨e, σ⟩ hi ⟨h0, h1, h5⟩ K hK
  simp only at h0 h1 h5
  simp -dsimp -implicitDefEqProofs only [go_sem, h0, h1, h5]
  refine ifB'.of (fun hlt => ?_) (fun hlt => ?_)
  · have hlt : i < xs.length := by omega
    have hbi := hb _ (List.getElem_mem hlt)
    simp -dsimp -implicitDefEqProofs only [go_sem, h0, h1, h5, bbA_at hlt]
    repeat with_reducible refine ask.of (by omega) ?_
    refine CallE.of (c_eqByteSS xs[i] (by have := hbi.1; omega) (fun b h => by have := hbi.2 b h; omega)) (by rintro r rfl; (repeat' first | exact trivial | exact pure_rowB _ | exact pure_rowO _ | exact pure_rowI _ | exact pure_rowBB _ | exact pure_rowPk _ _ | exact pure_rowSn _ _ | exact pure_rowFd _ _ | exact pure_rowBBB _ | exact pure_rowCl _ _ | exact pure_rowTb _ _ _ | refine And.intro ?_ ?_)) (by simp -dsimp -implicitDefEqProofs only [go_sem, h0, h1, h5, Bool.not_true]) ?_
    rintro r rfl
    simp -dsimp -implicitDefEqProofs only [go_sem, h0, h1, h5, Bool.not_true]
    refine hK _ hlt ?_
    simp -dsimp -implicitDefEqProofs only [go_sem, h0, h1, h5, wrap_succ (show i < 4611686018427387904 by omega)]
  · simp -dsimp -implicitDefEqProofs only [go_sem, h0, h1, h5]
structure Sm where
  o : Bool
  fs : List Fd
  s : Int
  ds : List (List (List UInt8))
def smC (T : Nat) (x : Sm) : List AV := [.v (.bool x.o), .row T 3 (ra fdC x.fs), .v (.int .i64 x.s), .row 132 1 (ra bbC x.ds)]
def smW (x : Sm) : Nat := x.fs.length + szL fdW x.fs + (x.ds.length + szL bbW x.ds)
theorem c_szStream (x : Sm) (left : Nat) (hl : left ≤ 1048576) (h1 : x.fs.length ≤ 140737488355328) (h2 : ∀ b ∈ x.fs, b.f.length ≤ 140737488355328) (h3 : x.ds.length ≤ 140737488355328) (h4 : ∀ b ∈ x.ds, lenOk b 140737488355328) : Meets Tryz.prog 20 [.agg (smC 84 x), .v (.int .i64 left)] (fun r => r = .v (.int .i64 (szR left (smW x)))) := by
  refine Meets.intro mixed (hint []) Tryz.func20 rfl (by decide) res_20 rty_20 (by kernel_rfl) ?_; 
  simp -dsimp -implicitDefEqProofs only [go_sem, smC]
  repeat (first | with_reducible refine ask.of (by omega) ?_ | simp -dsimp -implicitDefEqProofs only [go_sem, bleF])
  refine CallE.of (c_szFieldS x.fs left hl h1 h2) (by rintro r rfl; (repeat' first | exact trivial | exact pure_rowB _ | exact pure_rowO _ | exact pure_rowI _ | exact pure_rowBB _ | exact pure_rowPk _ _ | exact pure_rowSn _ _ | exact pure_rowFd _ _ | exact pure_rowBBB _ | exact pure_rowCl _ _ | exact pure_rowTb _ _ _ | refine And.intro ?_ ?_)) (by simp -dsimp -implicitDefEqProofs only [go_sem, rowFd]) ?_
  rintro r rfl
  simp -dsimp -implicitDefEqProofs only [go_sem, rowFd]
  by_cases h : x.fs.length + szL fdW x.fs ≤ left
  · rw [szR_ok h]
    refine ifB'.of (fun h => by omega) (fun h => ?_)
    repeat (first | with_reducible refine ask.of (by omega) ?_ | simp -dsimp -implicitDefEqProofs only [go_sem, bleF])
    refine CallE.of (c_szByteSSS x.ds (left - (x.fs.length + szL fdW x.fs)) (by omega) h3 h4) (by rintro r rfl; (repeat' first | exact trivial | exact pure_rowB _ | exact pure_rowO _ | exact pure_rowI _ | exact pure_rowBB _ | exact pure_rowPk _ _ | exact pure_rowSn _ _ | exact pure_rowFd _ _ | exact pure_rowBBB _ | exact pure_rowCl _ _ | exact pure_rowTb _ _ _ | refine And.intro ?_ ?_)) (by simp -dsimp -implicitDefEqProofs only [go_sem, rowBBB]) ?_
    rintro r rfl
    simp -dsimp -implicitDefEqProofs only [go_sem, rowBBB]
    by_cases h' : x.ds.length + szL bbW x.ds ≤ left - (x.fs.length + szL fdW x.fs)
    · rw [szR_ok h']
      refine ifB'.of (fun h => by omega) (fun h => ?_)
      simp -dsimp -implicitDefEqProofs only [go_sem]
      rw [szR_ok (by unfold smW; omega), smW]; omega
    · rw [szR_no h']
      simp -dsimp -implicitDefEqProofs only [go_sem, show decide ((-1 : Int) < 0) = true from rfl]
      rw [szR_no (by unfold smW; omega)]
  · rw [szR_no h]
    simp -dsimp -implicitDefEqProofs only [go_sem, show decide ((-1 : Int) < 0) = true from rfl]
    rw [szR_no (by unfold smW; omega)]
theorem c_toStream (x : Sm) (h1 : x.fs.length ≤ 1048576) (h2 : ∀ b ∈ x.fs, b.f.length ≤ 1048576) (h3 : x.ds.length ≤ 1048576) (h4 : ∀ b ∈ x.ds, lenOk b 1048576) : Meets Tryz.prog 27 [.agg (smC 84 x)] (fun r => r = .agg (smC 101 x)) := by
  refine Meets.intro mixed (hint []) Tryz.func27 rfl (by decide) res_27 rty_27 (by kernel_rfl) ?_; 
  simp -dsimp -implicitDefEqProofs only [go_sem, smC]
  repeat (first | with_reducible refine ask.of (by omega) ?_ | simp -dsimp -implicitDefEqProofs only [go_sem, bleF])
  refine CallE.of (c_toFieldS x.fs h1 h2) (by rintro r rfl; (repeat' first | exact trivial | exact pure_rowB _ | exact pure_rowO _ | exact pure_rowI _ | exact pure_rowBB _ | exact pure_rowPk _ _ | exact pure_rowSn _ _ | exact pure_rowFd _ _ | exact pure_rowBBB _ | exact pure_rowCl _ _ | exact pure_rowTb _ _ _ | refine And.intro ?_ ?_)) (by simp -dsimp -implicitDefEqProofs only [go_sem, rowFd]) ?_
  rintro r rfl
  simp -dsimp -implicitDefEqProofs only [go_sem, rowFd]
  repeat (first | with_reducible refine ask.of (by omega) ?_ | simp -dsimp -implicitDefEqProofs only [go_sem, bleF])
  refine CallE.of (c_toByteSSS x.ds h3 h4) (by rintro r rfl; (repeat' first | exact trivial | exact pure_rowB _ | exact pure_rowO _ | exact pure_rowI _ | exact pure_rowBB _ | exact pure_rowPk _ _ | exact pure_rowSn _ _ | exact pure_rowFd _ _ | exact pure_rowBBB _ | exact pure_rowCl _ _ | exact pure_rowTb _ _ _ | refine And.intro ?_ ?_)) (by simp -dsimp -implicitDefEqProofs only [go_sem, rowBBB]) ?_
  rintro r rfl
  simp -dsimp -implicitDefEqProofs only [go_sem, rowBBB]
  repeat (first | with_reducible refine ask.of (by omega) ?_ | simp -dsimp -implicitDefEqProofs only [go_sem, bleF])
theorem c_eqStream (x : Sm) (h1 : x.fs.length ≤ 1048576) (h2 : ∀ b ∈ x.fs, b.f.length ≤ 1048576) (h3 : x.ds.length ≤ 1048576) (h4 : ∀ b ∈ x.ds, lenOk b 1048576) : Meets Tryz.prog 34 [.agg (smC 101 x), .agg (smC 101 x)] (fun r => r = .v (.bool true)) := by
  refine Meets.intro mixed (hint []) Tryz.func34 rfl (by decide) res_34 rty_34 (by kernel_rfl) ?_; 
  simp -dsimp -implicitDefEqProofs only [go_sem, smC, decide_true]
  repeat (first | with_reducible refine ask.of (by omega) ?_ | simp -dsimp -implicitDefEqProofs only [go_sem, bleF, decide_true])
  refine CallE.of (c_eqFieldS x.fs h1 h2) (by rintro r rfl; (repeat' first | exact trivial | exact pure_rowB _ | exact pure_rowO _ | exact pure_rowI _ | exact pure_rowBB _ | exact pure_rowPk _ _ | exact pure_rowSn _ _ | exact pure_rowFd _ _ | exact pure_rowBBB _ | exact pure_rowCl _ _ | exact pure_rowTb _ _ _ | refine And.intro ?_ ?_)) (by simp -dsimp -implicitDefEqProofs only [go_sem, rowFd, Bool.not_true]) ?_
  rintro r rfl
  simp -dsimp -implicitDefEqProofs only [go_sem, rowFd, Bool.not_true]
  repeat (first | with_reducible refine ask.of (by omega) ?_ | simp -dsimp -implicitDefEqProofs only [go_sem, bleF, decide_true])
  refine CallE.of (c_eqByteSSS x.ds (by omega) h4) (by rintro r rfl; (repeat' first | exact trivial | exact pure_rowB _ | exact pure_rowO _ | exact pure_rowI _ | exact pure_rowBB _ | exact pure_rowPk _ _ | exact pure_rowSn _ _ | exact pure_rowFd _ _ | exact pure_rowBBB _ | exact pure_rowCl _ _ | exact pure_rowTb _ _ _ | refine And.intro ?_ ?_)) (by simp -dsimp -implicitDefEqProofs only [go_sem, rowBBB, Bool.not_true]) ?_
  rintro r rfl
  simp -dsimp -implicitDefEqProofs only [go_sem, rowBBB, Bool.not_true]
def smAt (x : Sm) (i : Nat) (h : i < x.ds.length) : Prop := okD x.ds[i] ∧ ∃ h' : i < x.fs.length, x.fs[i].k = 3 ∨ x.ds[i].length = 0
def okS (x : Sm) : Prop := if x.o = true then okF x.fs ∧ 0 ≤ x.s ∧ x.s ≤ 1000000000 ∧ x.ds.length = x.fs.length ∧ ∀ i (h : i < x.ds.length), smAt x i h else x.fs.length = 0 ∧ x.s = 0 ∧ x.ds.length = 0
noncomputable def smB (x : Sm) : Bool := @decide (okS x) (Classical.propDecidable _)
theorem sm_f {x : Sm} (h : ¬ okS x) : false = smB x := (@decide_eq_false _ (Classical.propDecidable _) h).symm
theorem sm_t {x : Sm} (h : okS x) : true = smB x := (@decide_eq_true _ (Classical.propDecidable _) h).symm
theorem sm_d {x : Sm} {q : Prop} [Decidable q] (h : q ↔ okS x) : decide q = smB x := by
  by_cases hq : q
  · rw [decide_eq_true hq]; exact sm_t (h.1 hq)
  · rw [decide_eq_false hq]; exact sm_f (fun h' => hq (h.2 h'))
end Go.Ev
set_option linter.unusedSimpArgs false
set_option linter.unusedVariables false
namespace Go.Ev
open Go Go.RowKit Go.Proofs
theorem c_l1copy (b : List UInt8) (hb : b.length ≤ 8388608) : Meets Tryz.prog 90 [rowB b] (fun r => r = rowB b) := by
  refine Meets.intro mixed (hint [(3, 148)]) Tryz.func90 rfl (by decide) res_90 rty_90 (by kernel_rfl) ?_; 
  simp -dsimp -implicitDefEqProofs only [go_sem, initE]
  repeat (first | with_reducible refine ask.of (by first | omega | (simp only [List.length_nil]; omega)) ?_ | simp -dsimp -implicitDefEqProofs only [go_sem, List.nil_append])
theorem c_l3texts (xs : List (List UInt8)) (hx : xs.length ≤ 1048576) (hb : ∀ b ∈ xs, b.length ≤ 8388608) : Meets Tryz.prog 108 [rowBB xs] (fun r => r = rowBB xs) := by
  refine Meets.intro mixed (hint [(3, 232)]) Tryz.func108 rfl (by decide) res_108 rty_108 (by kernel_rfl) ?_; 
  simp -dsimp -implicitDefEqProofs only [go_sem]
  refine LoopE.cnt xs.length (fun i s => s.env 0 = .rd .ent 48 1 (ra byC xs) ∧ s.env 3 = .ref [3] ∧ s.env 4 = .v (.int .i64 i) ∧ s.σ [3] = some (.row 48 1 (ra byC (xs.take i)))) ⟨by simp -dsimp -implicitDefEqProofs only [go_sem, initE], by simp -dsimp -implicitDefEqProofs only [go_sem], by simp -dsimp -implicitDefEqProofs only [go_sem], by simp -dsimp -implicitDefEqProofs only [go_sem] <;> rfl⟩ ?_
  rintro i ⟨e, σ⟩ hi ⟨h0, h3, h4, hs⟩ K hK
  simp only at h0 h3 h4 hs
  simp -dsimp -implicitDefEqProofs only [go_sem, h0, h3, h4, hs]
  refine ifB'.of (fun hlt => ?_) (fun hlt => ?_)
  · have hlt : i < xs.length := by omega
    simp -dsimp -implicitDefEqProofs only [go_sem, h0, h3, h4, hs, byA_at hlt]
    repeat with_reducible refine ask.of (by omega) ?_
    refine CallE.of (c_l1copy xs[i] (hb _ (List.getElem_mem _))) (by rintro r rfl; (repeat' first | exact trivial | exact pure_rowB _ | exact pure_rowO _ | exact pure_rowI _ | exact pure_rowBB _ | exact pure_rowPk _ _ | exact pure_rowSn _ _ | exact pure_rowFd _ _ | exact pure_rowBBB _ | exact pure_rowCl _ _ | exact pure_rowTb _ _ _ | refine And.intro ?_ ?_)) (by simp -dsimp -implicitDefEqProofs only [go_sem, h0, h3, h4, hs]) ?_
    rintro r rfl
    simp -dsimp -implicitDefEqProofs only [go_sem, h0, h3, h4, hs]
    repeat (first | with_reducible refine ask.of (by first | omega | decide | (simp; omega)) ?_ | simp -dsimp -implicitDefEqProofs only [go_sem, h0, h3, h4, hs, byA_at hlt])
    refine hK _ hlt ?_
    simp -dsimp -implicitDefEqProofs only [go_sem, h0, h3, h4, hs, wrap_succ (show i < 4611686018427387904 by omega), take_succ hlt]
  · have : i = xs.length := by omega
    subst this
    simp -dsimp -implicitDefEqProofs only [go_sem, h0, h3, h4, hs, List.take_length]
theorem c_textsCopy (xs : List (List UInt8)) (hx : xs.length + wBB xs ≤ 1048576) : Meets Tryz.prog 126 [rowBB xs] (fun r => r = rowBB xs) := by
  refine Meets.intro mixed (hint []) Tryz.func126 rfl (by decide) res_126 rty_126 (by kernel_rfl) ?_; 
  simp -dsimp -implicitDefEqProofs only [go_sem]
  repeat (first | with_reducible refine ask.of (by first | omega | decide) ?_ | simp -dsimp -implicitDefEqProofs only [go_sem])
  refine LoopE.cnt xs.length (fun i s => s.env 7 = .rd .ent 48 1 (ra byC xs) ∧ s.env 8 = .v (.int .i64 xs.length) ∧ s.env 9 = .v (.int .i64 i) ∧ s.env 3 = .ref [6] ∧ s.σ [6] = some (.row 48 1 (ra byC (xs.take i)))) ⟨by simp -dsimp -implicitDefEqProofs only [go_sem, initE], by simp -dsimp -implicitDefEqProofs only [go_sem, initE], by simp -dsimp -implicitDefEqProofs only [go_sem], by simp -dsimp -implicitDefEqProofs only [go_sem], by simp -dsimp -implicitDefEqProofs only [go_sem] <;> rfl⟩ ?_
  rintro i ⟨e, σ⟩ hi ⟨h7, h8, h9, h3, hs⟩ K hK
  simp only at h7 h8 h9 h3 hs
  simp -dsimp -implicitDefEqProofs only [go_sem, h7, h8, h9, h3, hs]
  refine ifB'.of (fun hlt => ?_) (fun hlt => ?_)
  · have hlt : i < xs.length := by omega
    have hb : xs[i].length ≤ 1048576 := by have := mem_wBB (List.getElem_mem hlt); omega
    simp -dsimp -implicitDefEqProofs only [go_sem, h7, h8, h9, h3, hs, byA_at hlt]
    repeat (first | with_reducible refine ask.of (by first | omega | decide | (simp; omega)) ?_ | simp -dsimp -implicitDefEqProofs only [go_sem, h7, h8, h9, h3, hs, byA_at hlt, List.nil_append])
    refine hK _ hlt ?_
    simp -dsimp -implicitDefEqProofs only [go_sem, h7, h8, h9, h3, hs, wrap_succ (show i < 4611686018427387904 by omega), take_succ hlt]
  · have : i = xs.length := by omega
    subst this
    simp -dsimp -implicitDefEqProofs only [go_sem, h7, h8, h9, h3, hs, List.take_length]
end Go.Ev
set_option linter.unusedSimpArgs false
set_option linter.unusedVariables false
namespace Go.Ev
open Go Go.RowKit Go.Proofs
def cutB (b : List UInt8) (l h : Nat) : List UInt8 := (b.take h).drop l
theorem cutB_length {b : List UInt8} {l h : Nat} (hh : h ≤ b.length) : (cutB b l h).length = h - l := by simp [cutB]; omega
def numAt (b : List UInt8) (l h : Nat) : Int := IntKind.i64.wrap (leN (cutB b l h))
def pkOf (b : List UInt8) : Pk := ⟨((b.getD 1 0).toNat : Int), numAt b 2 6, numAt b 6 14, numAt b 14 18, decide ((b.getD 18 0).toNat = 1), cutB b 21 (b.length - 4)⟩
def decP (b : List UInt8) : Pk × Int := if 25 ≤ b.length ∧ encP (pkOf b) = b then (pkOf b, 0) else (⟨0, 0, 0, 0, false, []⟩, 3)
theorem decP_no {b : List UInt8} (h : ¬ (25 ≤ b.length ∧ encP (pkOf b) = b)) : decP b = (⟨0, 0, 0, 0, false, []⟩, 3) := if_neg h
theorem decP_yes {b : List UInt8} (h : 25 ≤ b.length ∧ encP (pkOf b) = b) : decP b = (pkOf b, 0) := if_pos h
def decRes (b : List UInt8) : AV := .tup [.agg (pkC (decP b).1), .v (.int .i64 (decP b).2)]
theorem encP_long {b : List UInt8} (h : 125 < b.length) : encP (pkOf b) = [] := by
  unfold encP
  rw [if_neg]
  intro h'
  have h' : okPk (pkOf b) := of_decide_eq_true h'
  have hl : (pkOf b).f.length = b.length - 25 := by
    show (cutB b 21 (b.length - 4)).length = _
    rw [cutB_length (by omega)]; omega
  unfold okPk at h'
  omega
theorem at_getD {b : List UInt8} {i : Nat} (h : i < b.length) : b[i] = b.getD i 0 := by simp [h]
theorem c_bytesClone (b : List UInt8) (hb : b.length ≤ 8388608) : Meets Tryz.prog 96 [rowB b] (fun r => r = rowB b) := by
  refine Meets.intro mixed (hint []) Tryz.func96 rfl (by decide) res_96 rty_96 (by kernel_rfl) ?_; 
  simp -dsimp -implicitDefEqProofs only [go_sem, initE]
  refine nilE'.of (fun h => ?_) ?_
  · have h : b = [] := by simpa [bytesA] using h
    subst h
    simp -dsimp -implicitDefEqProofs only [go_sem]
    rfl
  · simp -dsimp -implicitDefEqProofs only [go_sem]
    repeat (first | with_reducible refine ask.of (by first | omega | decide | (simp; omega)) ?_ | simp -dsimp -implicitDefEqProofs only [go_sem, List.nil_append])
theorem u8_eq1 (b : UInt8) : decide ((b.toNat : Int) = 1) = decide (b.toNat = 1) := decide_eq_decide.2 (by omega)
theorem i64_u8 (b : UInt8) : IntKind.i64.wrap (b.toNat : Int) = (b.toNat : Int) := by have := b.toNat_lt; rw [wrap_i64_of (by omega) (by omega)]
theorem pkC_of (b : List UInt8) : pkC (pkOf b) = [.v (.int .i64 ((b.getD 1 0).toNat : Int)), .v (.int .i64 (IntKind.i64.wrap (leN (cutB b 2 6)))), .v (.int .i64 (IntKind.i64.wrap (leN (cutB b 6 14)))), .v (.int .i64 (IntKind.i64.wrap (leN (cutB b 14 18)))), .v (.bool (decide ((b.getD 18 0).toNat = 1))), .row 5 1 (bytesA (cutB b 21 (b.length - 4)))] := rfl
theorem ble6_1 : Nat.ble 1 6 = true := rfl
theorem ble6_2 : Nat.ble 2 6 = true := rfl
theorem ble6_3 : Nat.ble 3 6 = true := rfl
theorem ble6_4 : Nat.ble 4 6 = true := rfl
theorem ble6_5 : Nat.ble 5 6 = true := rfl
set_option maxHeartbeats 1000000 in
theorem c_specDecodePacket (b : List UInt8) (hb : b.length ≤ 1048576) : Meets Tryz.prog 43 [rowB b] (fun r => r = decRes b) := by
  refine Meets.introO mixed (hint []) (fun k => (sel (k == 3) [999,0,1,2,3,4,5,7,8,10,11,13,14,15,16,17,18,19,20,21,1024,6,9,12,22,23,24,25] [])) Tryz.func43 rfl (by decide) res_43 rty_43 (by kernel_rfl) ?_; 
  simp -dsimp -implicitDefEqProofs only [go_sem]
  repeat (first | with_reducible refine ask.of (by omega) ?_ | simp -dsimp -implicitDefEqProofs only [go_sem])
  refine ifB'.of (fun h => ?_) (fun h => ?_)
  · simp -dsimp -implicitDefEqProofs only [go_sem]
    repeat (first | with_reducible refine ask.of (by omega) ?_ | simp -dsimp -implicitDefEqProofs only [go_sem, bleR])
    rw [decRes, decP_no (by omega)]; rfl
  simp -dsimp -implicitDefEqProofs only [go_sem]
  refine ifB'.of (fun h2 => ?_) (fun h2 => ?_)
  · simp -dsimp -implicitDefEqProofs only [go_sem]
    repeat (first | with_reducible refine ask.of (by omega) ?_ | simp -dsimp -implicitDefEqProofs only [go_sem, bleR])
    rw [decRes, decP_no (by rw [encP_long (by omega)]; rintro ⟨h3, h4⟩; rw [← h4] at h3; simp at h3)]; rfl
  have n1 : 1 < b.length := by omega
  have n18 : 18 < b.length := by omega
  have e4 : IntKind.i64.wrap ((b.length : Int) - 4) = ((b.length - 4 : Nat) : Int) := by rw [wrap_i64_of (by omega) (by omega)]; omega
  simp -dsimp -implicitDefEqProofs only [go_sem, bytesA_at n1, bytesA_at n18, e4, show Int.toNat 1 = 1 from rfl, show Int.toNat 18 = 18 from rfl]
  repeat (first | with_reducible refine ask.of (by omega) ?_ | simp -dsimp -implicitDefEqProofs only [go_sem, bytesA_at n1, bytesA_at n18, e4, show Int.toNat 1 = 1 from rfl, show Int.toNat 18 = 18 from rfl, i64_u8, u8_eq1])
  have c1 : List.drop (Int.toNat 2) (List.take (Int.toNat 6) b) = cutB b 2 6 := rfl
  have c2 : List.drop (Int.toNat 6) (List.take (Int.toNat 14) b) = cutB b 6 14 := rfl
  have c3 : List.drop (Int.toNat 14) (List.take 18 b) = cutB b 14 18 := rfl
  have c4 : List.drop (Int.toNat 21) (List.take (b.length - 4) b) = cutB b 21 (b.length - 4) := rfl
  have l1 : (cutB b 2 6).length = 4 := cutB_length (by omega)
  have l2 : (cutB b 6 14).length = 8 := cutB_length (by omega)
  have l3 : (cutB b 14 18).length = 4 := cutB_length (by omega)
  have l4 : (cutB b 21 (b.length - 4)).length = b.length - 25 := by rw [cutB_length (by omega)]; omega
  refine CallE.of (c_l1number (cutB b 2 6) (by omega)) (by rintro r rfl; (repeat' first | exact trivial | exact pure_rowB _ | exact pure_rowO _ | exact pure_rowI _ | exact pure_rowBB _ | exact pure_rowPk _ _ | exact pure_rowSn _ _ | exact pure_rowFd _ _ | exact pure_rowBBB _ | exact pure_rowCl _ _ | exact pure_rowTb _ _ _ | refine And.intro ?_ ?_)) (by simp -dsimp -implicitDefEqProofs only [go_sem, c1, c2, c3, c4]) ?_
  rintro r rfl
  simp -dsimp -implicitDefEqProofs only [go_sem, c1, c2, c3, c4]
  refine CallE.of (c_l1number (cutB b 6 14) (by omega)) (by rintro r rfl; (repeat' first | exact trivial | exact pure_rowB _ | exact pure_rowO _ | exact pure_rowI _ | exact pure_rowBB _ | exact pure_rowPk _ _ | exact pure_rowSn _ _ | exact pure_rowFd _ _ | exact pure_rowBBB _ | exact pure_rowCl _ _ | exact pure_rowTb _ _ _ | refine And.intro ?_ ?_)) (by simp -dsimp -implicitDefEqProofs only [go_sem, c1, c2, c3, c4]) ?_
  rintro r rfl
  simp -dsimp -implicitDefEqProofs only [go_sem, c1, c2, c3, c4]
  refine CallE.of (c_l1number (cutB b 14 18) (by omega)) (by rintro r rfl; (repeat' first | exact trivial | exact pure_rowB _ | exact pure_rowO _ | exact pure_rowI _ | exact pure_rowBB _ | exact pure_rowPk _ _ | exact pure_rowSn _ _ | exact pure_rowFd _ _ | exact pure_rowBBB _ | exact pure_rowCl _ _ | exact pure_rowTb _ _ _ | refine And.intro ?_ ?_)) (by simp -dsimp -implicitDefEqProofs only [go_sem, c1, c2, c3, c4]) ?_
  rintro r rfl
  simp -dsimp -implicitDefEqProofs only [go_sem, c1, c2, c3, c4]
  refine CallE.of (c_l1copy (cutB b 21 (b.length - 4)) (by omega)) (by rintro r rfl; (repeat' first | exact trivial | exact pure_rowB _ | exact pure_rowO _ | exact pure_rowI _ | exact pure_rowBB _ | exact pure_rowPk _ _ | exact pure_rowSn _ _ | exact pure_rowFd _ _ | exact pure_rowBBB _ | exact pure_rowCl _ _ | exact pure_rowTb _ _ _ | refine And.intro ?_ ?_)) (by simp -dsimp -implicitDefEqProofs only [go_sem, c1, c2, c3, c4]) ?_
  rintro r rfl
  simp -dsimp -implicitDefEqProofs only [go_sem, c1, c2, c3, c4]
  repeat (first | with_reducible refine ask.of (by omega) ?_ | simp -dsimp -implicitDefEqProofs only [go_sem, bleR, ble6_1, ble6_2, ble6_3, ble6_4, ble6_5])
  refine CallE.of (c_specEncodePacket (pkOf b) (by show (cutB b 21 (b.length - 4)).length ≤ _; omega)) (by rintro r rfl; (repeat' first | exact trivial | exact pure_rowB _ | exact pure_rowO _ | exact pure_rowI _ | exact pure_rowBB _ | exact pure_rowPk _ _ | exact pure_rowSn _ _ | exact pure_rowFd _ _ | exact pure_rowBBB _ | exact pure_rowCl _ _ | exact pure_rowTb _ _ _ | refine And.intro ?_ ?_)) (by simp -dsimp -implicitDefEqProofs only [go_sem, pkC_of b, at_getD n1, at_getD n18]) ?_
  rintro r rfl
  simp -dsimp -implicitDefEqProofs only [go_sem, pkC_of b, at_getD n1, at_getD n18]
  have he := encP_le (pkOf b)
  have hf : (pkOf b).f.length = b.length - 25 := l4
  refine CallE.of (c_l1same (encP (pkOf b)) b (by omega) (by omega)) (by rintro r rfl; (repeat' first | exact trivial | exact pure_rowB _ | exact pure_rowO _ | exact pure_rowI _ | exact pure_rowBB _ | exact pure_rowPk _ _ | exact pure_rowSn _ _ | exact pure_rowFd _ _ | exact pure_rowBBB _ | exact pure_rowCl _ _ | exact pure_rowTb _ _ _ | refine And.intro ?_ ?_)) (by simp -dsimp -implicitDefEqProofs only [go_sem]) ?_
  rintro r rfl
  simp -dsimp -implicitDefEqProofs only [go_sem]
  refine ifB'.of (fun h3 => ?_) (fun h3 => ?_)
  · simp -dsimp -implicitDefEqProofs only [go_sem]
    repeat (first | with_reducible refine ask.of (by omega) ?_ | simp -dsimp -implicitDefEqProofs only [go_sem, bleR, ble6_1, ble6_2, ble6_3, ble6_4, ble6_5])
    rw [decRes, decP_yes ⟨by omega, h3⟩, pkC_of]
  · simp -dsimp -implicitDefEqProofs only [go_sem]
    repeat (first | with_reducible refine ask.of (by omega) ?_ | simp -dsimp -implicitDefEqProofs only [go_sem, bleR, ble6_1, ble6_2, ble6_3, ble6_4, ble6_5])
    rw [decRes, decP_no (fun h => h3 h.2)]; rfl
set_option maxHeartbeats 1000000 in
theorem c_implDecodePacket (b : List UInt8) (hb : b.length ≤ 1048576) : Meets Tryz.prog 46 [rowB b] (fun r => r = decRes b) := by
  refine Meets.introO mixed (hint []) (fun k => (sel (k == 3) [999,0,1,2,3,4,5,7,8,10,11,13,14,15,16,17,18,19,20,21,1024,6,9,12,22,23,24,25] [])) Tryz.func46 rfl (by decide) res_46 rty_46 (by kernel_rfl) ?_; 
  simp -dsimp -implicitDefEqProofs only [go_sem]
  repeat (first | with_reducible refine ask.of (by omega) ?_ | simp -dsimp -implicitDefEqProofs only [go_sem])
  refine ifB'.of (fun h => ?_) (fun h => ?_)
  · simp -dsimp -implicitDefEqProofs only [go_sem]
    repeat (first | with_reducible refine ask.of (by omega) ?_ | simp -dsimp -implicitDefEqProofs only [go_sem, bleR])
    rw [decRes, decP_no (by omega)]; rfl
  have n1 : 1 < b.length := by omega
  have n18 : 18 < b.length := by omega
  have e4 : IntKind.i64.wrap ((b.length : Int) - 4) = ((b.length - 4 : Nat) : Int) := by rw [wrap_i64_of (by omega) (by omega)]; omega
  simp -dsimp -implicitDefEqProofs only [go_sem, bytesA_at n1, bytesA_at n18, e4, show Int.toNat 1 = 1 from rfl, show Int.toNat 18 = 18 from rfl]
  repeat (first | with_reducible refine ask.of (by omega) ?_ | simp -dsimp -implicitDefEqProofs only [go_sem, bytesA_at n1, bytesA_at n18, e4, show Int.toNat 1 = 1 from rfl, show Int.toNat 18 = 18 from rfl, i64_u8, u8_eq1])
  have c1 : List.drop (Int.toNat 2) (List.take (Int.toNat 6) b) = cutB b 2 6 := rfl
  have c2 : List.drop (Int.toNat 6) (List.take (Int.toNat 14) b) = cutB b 6 14 := rfl
  have c3 : List.drop (Int.toNat 14) (List.take 18 b) = cutB b 14 18 := rfl
  have c4 : List.drop (Int.toNat 21) (List.take (b.length - 4) b) = cutB b 21 (b.length - 4) := rfl
  have l1 : (cutB b 2 6).length = 4 := cutB_length (by omega)
  have l2 : (cutB b 6 14).length = 8 := cutB_length (by omega)
  have l3 : (cutB b 14 18).length = 4 := cutB_length (by omega)
  have l4 : (cutB b 21 (b.length - 4)).length = b.length - 25 := by rw [cutB_length (by omega)]; omega
  refine CallE.of (c_low (cutB b 2 6) (by omega)) (by rintro r rfl; (repeat' first | exact trivial | exact pure_rowB _ | exact pure_rowO _ | exact pure_rowI _ | exact pure_rowBB _ | exact pure_rowPk _ _ | exact pure_rowSn _ _ | exact pure_rowFd _ _ | exact pure_rowBBB _ | exact pure_rowCl _ _ | exact pure_rowTb _ _ _ | refine And.intro ?_ ?_)) (by simp -dsimp -implicitDefEqProofs only [go_sem, c1, c2, c3, c4]) ?_
  rintro r rfl
  simp -dsimp -implicitDefEqProofs only [go_sem, c1, c2, c3, c4]
  refine CallE.of (c_low (cutB b 6 14) (by omega)) (by rintro r rfl; (repeat' first | exact trivial | exact pure_rowB _ | exact pure_rowO _ | exact pure_rowI _ | exact pure_rowBB _ | exact pure_rowPk _ _ | exact pure_rowSn _ _ | exact pure_rowFd _ _ | exact pure_rowBBB _ | exact pure_rowCl _ _ | exact pure_rowTb _ _ _ | refine And.intro ?_ ?_)) (by simp -dsimp -implicitDefEqProofs only [go_sem, c1, c2, c3, c4]) ?_
  rintro r rfl
  simp -dsimp -implicitDefEqProofs only [go_sem, c1, c2, c3, c4]
  refine CallE.of (c_low (cutB b 14 18) (by omega)) (by rintro r rfl; (repeat' first | exact trivial | exact pure_rowB _ | exact pure_rowO _ | exact pure_rowI _ | exact pure_rowBB _ | exact pure_rowPk _ _ | exact pure_rowSn _ _ | exact pure_rowFd _ _ | exact pure_rowBBB _ | exact pure_rowCl _ _ | exact pure_rowTb _ _ _ | refine And.intro ?_ ?_)) (by simp -dsimp -implicitDefEqProofs only [go_sem, c1, c2, c3, c4]) ?_
  rintro r rfl
  simp -dsimp -implicitDefEqProofs only [go_sem, c1, c2, c3, c4]
  refine CallE.of (c_bytesClone (cutB b 21 (b.length - 4)) (by omega)) (by rintro r rfl; (repeat' first | exact trivial | exact pure_rowB _ | exact pure_rowO _ | exact pure_rowI _ | exact pure_rowBB _ | exact pure_rowPk _ _ | exact pure_rowSn _ _ | exact pure_rowFd _ _ | exact pure_rowBBB _ | exact pure_rowCl _ _ | exact pure_rowTb _ _ _ | refine And.intro ?_ ?_)) (by simp -dsimp -implicitDefEqProofs only [go_sem, c1, c2, c3, c4]) ?_
  rintro r rfl
  simp -dsimp -implicitDefEqProofs only [go_sem, c1, c2, c3, c4]
  repeat (first | with_reducible refine ask.of (by omega) ?_ | simp -dsimp -implicitDefEqProofs only [go_sem, bleR, ble6_1, ble6_2, ble6_3, ble6_4, ble6_5])
  refine CallE.of (c_implEncodePacket (pkOf b) (by show (cutB b 21 (b.length - 4)).length ≤ _; omega)) (by rintro r rfl; (repeat' first | exact trivial | exact pure_rowB _ | exact pure_rowO _ | exact pure_rowI _ | exact pure_rowBB _ | exact pure_rowPk _ _ | exact pure_rowSn _ _ | exact pure_rowFd _ _ | exact pure_rowBBB _ | exact pure_rowCl _ _ | exact pure_rowTb _ _ _ | refine And.intro ?_ ?_)) (by simp -dsimp -implicitDefEqProofs only [go_sem, pkC_of b, at_getD n1, at_getD n18]) ?_
  rintro r rfl
  simp -dsimp -implicitDefEqProofs only [go_sem, pkC_of b, at_getD n1, at_getD n18]
  have he := encP_le (pkOf b)
  have hf : (pkOf b).f.length = b.length - 25 := l4
  refine ifB'.of (fun h3 => ?_) (fun h3 => ?_)
  · simp -dsimp -implicitDefEqProofs only [go_sem]
    repeat (first | with_reducible refine ask.of (by omega) ?_ | simp -dsimp -implicitDefEqProofs only [go_sem, bleR, ble6_1, ble6_2, ble6_3, ble6_4, ble6_5])
    rw [decRes, decP_no (by rintro ⟨h4, h5⟩; rw [h5] at h3; omega)]; rfl
  simp -dsimp -implicitDefEqProofs only [go_sem]
  refine CallE.of (c_bytesEqual (encP (pkOf b)) b (by omega) (by omega)) (by rintro r rfl; (repeat' first | exact trivial | exact pure_rowB _ | exact pure_rowO _ | exact pure_rowI _ | exact pure_rowBB _ | exact pure_rowPk _ _ | exact pure_rowSn _ _ | exact pure_rowFd _ _ | exact pure_rowBBB _ | exact pure_rowCl _ _ | exact pure_rowTb _ _ _ | refine And.intro ?_ ?_)) (by simp -dsimp -implicitDefEqProofs only [go_sem]) ?_
  rintro r rfl
  simp -dsimp -implicitDefEqProofs only [go_sem]
  refine ifB'.of (fun h3 => ?_) (fun h3 => ?_)
  · simp -dsimp -implicitDefEqProofs only [go_sem]
    repeat (first | with_reducible refine ask.of (by omega) ?_ | simp -dsimp -implicitDefEqProofs only [go_sem, bleR, ble6_1, ble6_2, ble6_3, ble6_4, ble6_5])
    rw [decRes, decP_yes ⟨by omega, h3⟩, pkC_of]
  · simp -dsimp -implicitDefEqProofs only [go_sem]
    repeat (first | with_reducible refine ask.of (by omega) ?_ | simp -dsimp -implicitDefEqProofs only [go_sem, bleR, ble6_1, ble6_2, ble6_3, ble6_4, ble6_5])
    rw [decRes, decP_no (fun h => h3 h.2)]; rfl
end Go.Ev
set_option linter.unusedSimpArgs false
set_option linter.unusedVariables false
namespace Go.Ev
open Go Go.RowKit Go.Proofs
theorem bl3 : Nat.ble 1 3 = true ∧ Nat.ble 2 3 = true ∧ Nat.ble 3 3 = true ∧ Nat.ble 1 4 = true ∧ Nat.ble 2 4 = true ∧ Nat.ble 3 4 = true ∧ Nat.ble 4 4 = true := ⟨rfl, rfl, rfl, rfl, rfl, rfl, rfl⟩
theorem fd_snoc (xs : List Fd) (x : Fd) : ra fdC xs ++ [[.row 5 1 (bytesA x.f), .v (.int .i64 x.k), .v (.int .i64 x.w)]] = ra fdC (xs ++ [x]) := by simp [ra, fdC]
theorem fd_takeS {xs : List Fd} {i : Nat} (h : i < xs.length) : ra fdC (xs.take i) ++ [[.row 5 1 (bytesA xs[i].f), .v (.int .i64 xs[i].k), .v (.int .i64 xs[i].w)]] = ra fdC (xs.take (i + 1)) := by rw [fd_snoc, List.take_succ_eq_append_getElem h]
set_option maxRecDepth 8000 in
theorem c_l4fields (xs : List Fd) (hx : xs.length ≤ 1048576) (hb : ∀ b ∈ xs, b.f.length ≤ 1048576) : Meets Tryz.prog 57 [rowFd 101 xs] (fun r => r = rowFd 101 xs) := by
  refine Meets.introO mixed (hint [(3, 133)]) (fun k => (sel (k == 5) [0,1,2,3,4,5,7,8,9,10,11,12,13,14,15,16,6,17,18,19,20] [])) Tryz.func57 rfl (by decide) res_57 rty_57 (by kernel_rfl) ?_; 
  simp -dsimp -implicitDefEqProofs only [go_sem, rowFd]
  refine LoopE.cnt xs.length (fun i s => s.env 0 = .rd .ent 101 3 (ra fdC xs) ∧ s.env 3 = .ref [3] ∧ s.env 4 = .v (.int .i64 i) ∧ s.σ [3] = some (.row 101 3 (ra fdC (xs.take i)))) ⟨by simp -dsimp -implicitDefEqProofs only [go_sem, initE, rowFd], by simp -dsimp -implicitDefEqProofs only [go_sem], by simp -dsimp -implicitDefEqProofs only [go_sem] <;> rfl, by simp -dsimp -implicitDefEqProofs only [go_sem] <;> rfl⟩ ?_
  rintro i ⟨e, σ⟩ hi ⟨h0, h3, h4, hs⟩ K hK
  simp only at h0 h3 h4 hs
  simp -dsimp -implicitDefEqProofs only [go_sem, h0, h3, h4, hs]
  refine ifB'.of (fun hlt => ?_) (fun hlt => ?_)
  · have hlt : i < xs.length := by omega
    repeat (first | with_reducible refine ask.of (by omega) ?_ | simp -dsimp -implicitDefEqProofs only [go_sem, h0, h3, h4, hs, Fd_at hlt, fdC, bl3])
    refine CallE.of (c_l1copy xs[i].f (by have := hb _ (List.getElem_mem hlt); omega)) (by rintro r rfl; (repeat' first | exact trivial | exact pure_rowB _ | exact pure_rowO _ | exact pure_rowI _ | exact pure_rowBB _ | exact pure_rowPk _ _ | exact pure_rowSn _ _ | exact pure_rowFd _ _ | exact pure_rowBBB _ | exact pure_rowCl _ _ | exact pure_rowTb _ _ _ | refine And.intro ?_ ?_)) (by simp -dsimp -implicitDefEqProofs only [go_sem, h0, h3, h4, hs]) ?_
    rintro r rfl
    simp -dsimp -implicitDefEqProofs only [go_sem, h0, h3, h4, hs]
    repeat (first | with_reducible refine ask.of (by first | omega | decide | (simp; omega)) ?_ | simp -dsimp -implicitDefEqProofs only [go_sem, h0, h3, h4, hs, Fd_at hlt, fdC, bl3])
    refine hK _ hlt ?_
    simp -dsimp -implicitDefEqProofs only [go_sem, h0, h3, h4, hs, wrap_succ (show i < 4611686018427387904 by omega), fd_takeS hlt]
  · have : i = xs.length := by omega
    subst this
    simp -dsimp -implicitDefEqProofs only [go_sem, h0, h3, h4, hs, List.take_length]
set_option maxRecDepth 8000 in
theorem c_fieldsCopy (xs : List Fd) (hx : xs.length ≤ 1048576) (hb : ∀ b ∈ xs, b.f.length ≤ 1048576) : Meets Tryz.prog 73 [rowFd 101 xs] (fun r => r = rowFd 101 xs) := by
  refine Meets.intro mixed (hint []) Tryz.func73 rfl (by decide) res_73 rty_73 (by kernel_rfl) ?_; 
  simp -dsimp -implicitDefEqProofs only [go_sem, rowFd]
  repeat (first | with_reducible refine ask.of (by first | omega | decide) ?_ | simp -dsimp -implicitDefEqProofs only [go_sem, initE, rowFd])
  refine LoopE.cnt xs.length (fun i s => s.env 3 = .ref [6] ∧ s.env 7 = .rd .ent 101 3 (ra fdC xs) ∧ s.env 8 = .v (.int .i64 xs.length) ∧ s.env 9 = .v (.int .i64 i) ∧ s.σ [6] = some (.row 101 3 (ra fdC (xs.take i)))) ⟨by simp -dsimp -implicitDefEqProofs only [go_sem], by simp -dsimp -implicitDefEqProofs only [go_sem, initE, rowFd], by simp -dsimp -implicitDefEqProofs only [go_sem, initE, rowFd], by simp -dsimp -implicitDefEqProofs only [go_sem] <;> rfl, by simp -dsimp -implicitDefEqProofs only [go_sem] <;> rfl⟩ ?_
  rintro i ⟨e, σ⟩ hi ⟨h3, h7, h8, h9, hs⟩ K hK
  simp only at h3 h7 h8 h9 hs
  simp -dsimp -implicitDefEqProofs only [go_sem, h3, h7, h8, h9, hs]
  refine ifB'.of (fun hlt => ?_) (fun hlt => ?_)
  · have hlt : i < xs.length := by omega
    repeat (first | with_reducible refine ask.of (by first | omega | decide) ?_ | simp -dsimp -implicitDefEqProofs only [go_sem, h3, h7, h8, h9, hs, Fd_at hlt, fdC, bl3])
    refine CallE.of (c_bytesClone xs[i].f (by have := hb _ (List.getElem_mem hlt); omega)) (by rintro r rfl; (repeat' first | exact trivial | exact pure_rowB _ | exact pure_rowO _ | exact pure_rowI _ | exact pure_rowBB _ | exact pure_rowPk _ _ | exact pure_rowSn _ _ | exact pure_rowFd _ _ | exact pure_rowBBB _ | exact pure_rowCl _ _ | exact pure_rowTb _ _ _ | refine And.intro ?_ ?_)) (by simp -dsimp -implicitDefEqProofs only [go_sem, h3, h7, h8, h9, hs]) ?_
    rintro r rfl
    simp -dsimp -implicitDefEqProofs only [go_sem, h3, h7, h8, h9, hs]
    repeat (first | with_reducible refine ask.of (by first | omega | decide | (simp; omega)) ?_ | simp -dsimp -implicitDefEqProofs only [go_sem, h3, h7, h8, h9, hs, Fd_at hlt, fdC, bl3])
    refine hK _ hlt ?_
    simp -dsimp -implicitDefEqProofs only [go_sem, h3, h7, h8, h9, hs, wrap_succ (show i < 4611686018427387904 by omega), fd_takeS hlt]
  · have : i = xs.length := by omega
    subst this
    simp -dsimp -implicitDefEqProofs only [go_sem, h3, h7, h8, h9, hs, List.take_length]
def hdF (x : Fd) : List UInt8 := [UInt8.ofNat x.k.toNat, UInt8.ofNat x.w.toNat] ++ x.f
def hdMs (fs : List Fd) (next : Int) : Ms := ⟨1, 0, fs.length, leB 8 next :: fs.map hdF⟩
def sm0 : Sm := ⟨false, [], 0, []⟩
def stSm (fs : List Fd) (next : Int) : Sm := ⟨true, fs, next, List.replicate fs.length []⟩
def stL (fs : List Fd) (next : Int) : Sm × List UInt8 × Int := if okF fs ∧ 0 ≤ next ∧ next ≤ 1000000000 then (stSm fs next, msBody (hdMs fs next), 0) else (sm0, [], 1)
theorem stL_no {fs : List Fd} {next : Int} (h : ¬ (okF fs ∧ 0 ≤ next ∧ next ≤ 1000000000)) : stL fs next = (sm0, [], 1) := if_neg h
theorem stL_yes {fs : List Fd} {next : Int} (h : okF fs ∧ 0 ≤ next ∧ next ≤ 1000000000) : stL fs next = (stSm fs next, msBody (hdMs fs next), 0) := if_pos h
def resS (x : Sm × List UInt8 × Int) : AV := .tup [.agg (smC 101 x.1), rowB x.2.1, .v (.int .i64 x.2.2)]
theorem fd_byte {x : Fd} (h : fdOk x) : IntKind.u8.wrap x.k = ((UInt8.ofNat x.k.toNat).toNat : Int) ∧ IntKind.u8.wrap x.w = ((UInt8.ofNat x.w.toNat).toNat : Int) := by
  have h1 : 0 ≤ x.k ∧ 0 ≤ x.w := by rcases h.2 with h | h <;> omega
  obtain ⟨n, hn⟩ := Int.eq_ofNat_of_zero_le h1.1
  obtain ⟨m, hm⟩ := Int.eq_ofNat_of_zero_le h1.2
  rw [hn, hm]; exact ⟨u8_of_nat n, u8_of_nat m⟩
theorem hd_take {fs : List Fd} {i : Nat} (h : i < fs.length) (l : List UInt8) : (l :: (fs.take i).map hdF) ++ [hdF fs[i]] = l :: (fs.take (i + 1)).map hdF := by
  rw [List.take_succ_eq_append_getElem h, List.map_append, List.cons_append]; rfl
theorem fd_name {x : Fd} (h : fdOk x) : x.f.length ≤ 20 := h.1.2.1
theorem hd_w {fs : List Fd} (h : ∀ x ∈ fs, fdOk x) : wBB (fs.map hdF) ≤ 22 * fs.length := by
  induction fs with
  | nil => simp [wBB, szL]
  | cons x fs ih =>
    have h1 := fd_name (h x List.mem_cons_self)
    have h2 := ih fun y hy => h y (List.mem_cons_of_mem _ hy)
    simp only [wBB, szL, List.map_cons, List.sum_cons, List.length_cons, hdF, List.length_append, List.length_nil] at h2 ⊢
    omega
theorem hd_wBB {fs : List Fd} {next : Int} (h : okF fs) : wBB (hdMs fs next).bs ≤ 272 := by
  have h1 := hd_w h.2.1
  have h2 := h.1.2
  show wBB (leB 8 next :: fs.map hdF) ≤ 272
  simp only [wBB, szL, List.map_cons, List.sum_cons, leB_length] at h1 ⊢
  omega
theorem hd_ok {fs : List Fd} {next : Int} (h : okF fs) : msOk (hdMs fs next) := by
  have h2 := h.1
  refine ⟨Int.le_refl 1, by show (1 : Int) ≤ 4; omega, Int.le_refl 0, by show (0 : Int) < 12; omega, by show (0 : Int) ≤ (fs.length : Int); omega, by show (fs.length : Int) ≤ 1000; omega, by show (leB 8 next :: fs.map hdF).length ≤ 40; simp; omega, .inl rfl⟩
theorem msBody_len (x : Ms) : (msBody x).length ≤ 12 + (5 * x.bs.length + wBB x.bs + 7 * (x.bs.length + 1)) := by
  have h1 := joinA_len (lensB x.bs :: x.bs)
  have h2 := lensB_length x.bs
  unfold msBody
  rw [sumB_length]
  simp only [wBB, szL, List.map_cons, List.map_nil, List.sum_cons, List.sum_nil, List.length_cons] at h1 ⊢
  have h3 : (headB x).length = 8 := rfl
  omega
theorem hd_enc {fs : List Fd} {next : Int} (h : okF fs) : encM (hdMs fs next) = msBody (hdMs fs next) := by
  have h1 := hd_wBB (next := next) h
  have h2 := msBody_len (hdMs fs next)
  have h3 : (hdMs fs next).bs.length = fs.length + 1 := by show (leB 8 next :: fs.map hdF).length = _; simp
  have h4 := h.1.2
  exact encM_yes ⟨hd_ok h, by omega, by omega⟩
set_option maxRecDepth 8000 in
theorem c_l4begin (fs : List Fd) (next : Int) (hx : fs.length ≤ 1048576) (hb : ∀ b ∈ fs, b.f.length ≤ 1048576) : Meets Tryz.prog 110 [rowFd 101 fs, .v (.int .i64 next)] (fun r => r = .agg (smC 101 (stSm fs next))) := by
  refine Meets.introO mixed (hint []) (fun k => (sel (k == 1) [999,0,2,3,4,1005,1,5,6,7] [])) Tryz.func110 rfl (by decide) res_110 rty_110 (by kernel_rfl) ?_; 
  simp -dsimp -implicitDefEqProofs only [go_sem, rowFd]
  repeat (first | with_reducible refine ask.of (by first | omega | decide) ?_ | simp -dsimp -implicitDefEqProofs only [go_sem, initE, rowFd, bl3])
  refine CallE.of (c_l4fields fs hx hb) (by rintro r rfl; (repeat' first | exact trivial | exact pure_rowB _ | exact pure_rowO _ | exact pure_rowI _ | exact pure_rowBB _ | exact pure_rowPk _ _ | exact pure_rowSn _ _ | exact pure_rowFd _ _ | exact pure_rowBBB _ | exact pure_rowCl _ _ | exact pure_rowTb _ _ _ | refine And.intro ?_ ?_)) (by simp -dsimp -implicitDefEqProofs only [go_sem, rowFd]) ?_
  rintro r rfl
  simp -dsimp -implicitDefEqProofs only [go_sem, rowFd]
  repeat (first | with_reducible refine ask.of (by first | omega | decide) ?_ | simp -dsimp -implicitDefEqProofs only [go_sem, initE, rowFd, bl3, bbA_zeros])
  rfl
end Go.Ev
set_option linter.unusedSimpArgs false
set_option linter.unusedVariables false
namespace Go.Ev
open Go Go.RowKit Go.Proofs
theorem hd_len {fs : List Fd} {next : Int} (hx : fs.length ≤ 1048576) (h1 : fs.length ≤ 12) (hw : wBB (hdMs fs next).bs ≤ 272) : (hdMs fs next).bs.length + wBB (hdMs fs next).bs ≤ 1048576 := by
  have : (hdMs fs next).bs.length = fs.length + 1 := by simp [hdMs]
  omega
set_option maxRecDepth 8000 in
theorem c_specStartStream (fs : List Fd) (next : Int) (hx : fs.length ≤ 1048576) (hb : ∀ b ∈ fs, b.f.length ≤ 1048576) : Meets Tryz.prog 60 [rowFd 101 fs, .v (.int .i64 next)] (fun r => r = resS (stL fs next)) := by
  refine Meets.introO mixed (hint []) (fun k => (sel (k == 8) [997,1,9,3,0,2,3,4,5,6,7,9,10,8,11,12,13,14,15] (sel (k == 9) [0,1,3,2,4,5,6,7] []))) Tryz.func60 rfl (by decide) res_60 rty_60 (by kernel_rfl) ?_; 
  simp -dsimp -implicitDefEqProofs only [go_sem, rowFd]
  repeat (first | with_reducible refine ask.of (by first | omega | decide) ?_ | simp -dsimp -implicitDefEqProofs only [go_sem, initE, rowFd, bl3])
  refine CallE.of (c_sValidFields fs hx hb) (by rintro r rfl; (repeat' first | exact trivial | exact pure_rowB _ | exact pure_rowO _ | exact pure_rowI _ | exact pure_rowBB _ | exact pure_rowPk _ _ | exact pure_rowSn _ _ | exact pure_rowFd _ _ | exact pure_rowBBB _ | exact pure_rowCl _ _ | exact pure_rowTb _ _ _ | refine And.intro ?_ ?_)) (by simp -dsimp -implicitDefEqProofs only [go_sem, rowFd]) ?_
  rintro r rfl
  simp -dsimp -implicitDefEqProofs only [go_sem, rowFd]
  by_cases h : okF fs ∧ 0 ≤ next ∧ next ≤ 1000000000
  · rw [stL_yes h, decide_eq_true h.1]
    repeat' (first | with_reducible refine ask.of (by first | omega | decide) ?_ | with_reducible refine ifB'.no (by omega) ?_ | simp -dsimp -implicitDefEqProofs only [go_sem, initE, rowFd, bl3, Bool.not_true, decide_true, decide_false])
    refine CallE.of (c_l1little next 8 (by decide)) (by rintro r rfl; (repeat' first | exact trivial | exact pure_rowB _ | exact pure_rowO _ | exact pure_rowI _ | exact pure_rowBB _ | exact pure_rowPk _ _ | exact pure_rowSn _ _ | exact pure_rowFd _ _ | exact pure_rowBBB _ | exact pure_rowCl _ _ | exact pure_rowTb _ _ _ | refine And.intro ?_ ?_)) (by simp -dsimp -implicitDefEqProofs only [go_sem, show ((8 : Nat) : Int) = 8 from rfl]) ?_
    rintro r rfl
    simp -dsimp -implicitDefEqProofs only [go_sem, show ((8 : Nat) : Int) = 8 from rfl]
    repeat' (first | with_reducible refine ask.of (by first | omega | decide) ?_ | simp -dsimp -implicitDefEqProofs only [go_sem, initE, rowFd, bl3, ra_length])
    have hf := h.1.2.1
    refine LoopE.cnt fs.length (fun i s => s.env 0 = .rd .ent 101 3 (ra fdC fs) ∧ s.env 1 = .v (.int .i64 next) ∧ s.env 4 = .ptr [4] 0 0 0 ∧ s.env 5 = .v (.slice none 0 0) ∧ s.env 6 = .v (.int .i64 0) ∧ s.env 7 = .ptr [7] 0 0 0 ∧ s.env 8 = .v (.int .i64 i) ∧
      s.σ [4] = some (.box 39 [.v (.bool false), .v (.slice none 0 0), .v (.int .i64 0), .v (.slice none 0 0)]) ∧ s.σ [7] = some (.box 139 [.v (.int .i64 1), .v (.int .i64 0), .v (.int .i64 fs.length), .ref [26]]) ∧ s.σ [26] = some (.row 48 1 (ra byC (leB 8 next :: (fs.take i).map hdF)))) ⟨by simp -dsimp -implicitDefEqProofs only [go_sem, initE, rowFd], by simp -dsimp -implicitDefEqProofs only [go_sem, initE], by simp -dsimp -implicitDefEqProofs only [go_sem], by simp -dsimp -implicitDefEqProofs only [go_sem], by simp -dsimp -implicitDefEqProofs only [go_sem], by simp -dsimp -implicitDefEqProofs only [go_sem], by simp -dsimp -implicitDefEqProofs only [go_sem] <;> rfl, by simp -dsimp -implicitDefEqProofs only [go_sem], by simp -dsimp -implicitDefEqProofs only [go_sem], by simp -dsimp -implicitDefEqProofs only [go_sem] <;> rfl⟩ ?_
    rintro i ⟨e, σ⟩ hi ⟨h0, h1, h4, h5, h6, h7, h8, hs4, hs7, hs26⟩ K hK
    simp only at h0 h1 h4 h5 h6 h7 h8 hs4 hs7 hs26
    simp -dsimp -implicitDefEqProofs only [go_sem, h0, h1, h4, h5, h6, h7, h8, hs4, hs7, hs26]
    refine ifB'.of (fun hlt => ?_) (fun hlt => ?_)
    · have hlt : i < fs.length := by omega
      repeat (first | with_reducible refine ask.of (by first | omega | decide) ?_ | simp -dsimp -implicitDefEqProofs only [go_sem, h0, h1, h4, h5, h6, h7, h8, hs4, hs7, hs26, Fd_at hlt, fdC, bl3])
      have hfd := hf fs[i] (List.getElem_mem hlt)
      have hnm := fd_name hfd
      have hby := fd_byte hfd
      repeat' (first | with_reducible refine And.intro ?_ ?_ | with_reducible refine ask.of (by first | omega | decide | (simp; omega)) ?_ | simp -dsimp -implicitDefEqProofs only [go_sem, h0, h1, h4, h5, h6, h7, h8, hs4, hs7, hs26, Fd_at hlt, fdC, bl3, List.take_succ_cons])
      all_goals
        refine hK _ hlt ?_
        simp -dsimp -implicitDefEqProofs only [go_sem, h0, h1, h4, h5, h6, h7, h8, hs4, hs7, hs26, wrap_succ (show i < 4611686018427387904 by omega), hby.1, hby.2]
        have ee : ra byC (leB 8 next :: (fs.take i).map hdF) ++ [[AV.row 5 1 (bytesA (hdF fs[i]))]] = ra byC (leB 8 next :: (fs.take (i + 1)).map hdF) := by
          rw [← hd_take hlt]; simp [ra, byC]
        exact congrArg (fun z => some (OB.row 48 1 z)) ee
    · have hlt : i = fs.length := by omega
      subst hlt
      have hw := hd_wBB (next := next) h.1
      rw [List.take_length] at hs26
      repeat' (first | with_reducible refine ask.of (by first | omega | decide) ?_ | simp -dsimp -implicitDefEqProofs only [go_sem, h0, h1, h4, h5, h6, h7, h8, hs4, hs7, hs26, bl3])
      refine CallE.of (c_l4begin fs next hx hb) (by rintro r rfl; (repeat' first | exact trivial | exact pure_rowB _ | exact pure_rowO _ | exact pure_rowI _ | exact pure_rowBB _ | exact pure_rowPk _ _ | exact pure_rowSn _ _ | exact pure_rowFd _ _ | exact pure_rowBBB _ | exact pure_rowCl _ _ | exact pure_rowTb _ _ _ | refine And.intro ?_ ?_)) (by simp -dsimp -implicitDefEqProofs only [go_sem, h0, h1, h4, h5, h6, h7, h8, hs4, hs7, hs26, rowFd, smC, stSm]) ?_
      rintro r rfl
      simp -dsimp -implicitDefEqProofs only [go_sem, h0, h1, h4, h5, h6, h7, h8, hs4, hs7, hs26, rowFd, smC, stSm]
      repeat' (first | with_reducible refine ask.of (by first | omega | decide) ?_ | simp -dsimp -implicitDefEqProofs only [go_sem, h0, h1, h4, h5, h6, h7, h8, hs4, hs7, hs26])
      refine CallE.of (c_l4encode (hdMs fs next) (hd_ok h.1) (by omega)) (by rintro r rfl; (repeat' first | exact trivial | exact pure_rowB _ | exact pure_rowO _ | exact pure_rowI _ | exact pure_rowBB _ | exact pure_rowPk _ _ | exact pure_rowSn _ _ | exact pure_rowFd _ _ | exact pure_rowBBB _ | exact pure_rowCl _ _ | exact pure_rowTb _ _ _ | refine And.intro ?_ ?_)) (by simp -dsimp -implicitDefEqProofs only [go_sem, h0, h1, h4, h5, h6, h7, h8, hs4, hs7, hs26, hdMs, msC]) ?_
      rintro r rfl
      simp -dsimp -implicitDefEqProofs only [go_sem, h0, h1, h4, h5, h6, h7, h8, hs4, hs7, hs26, hdMs, msC]
      repeat' (first | with_reducible refine ask.of (by first | omega | decide) ?_ | simp -dsimp -implicitDefEqProofs only [go_sem, h0, h1, h4, h5, h6, h7, h8, hs4, hs7, hs26, bl3])
      rfl
  · rw [stL_no h]
    repeat' (first | exact absurd ⟨by assumption, by omega, by omega⟩ h | with_reducible refine ask.of (by first | omega | decide) ?_ | ((with_reducible refine ifB'.of (fun _ => ?_) (fun _ => ?_))) | simp -dsimp -implicitDefEqProofs only [go_sem, bl3, Bool.not_true, Bool.not_false, decide_true, decide_false])
    all_goals rfl
set_option maxRecDepth 8000 in
theorem c_implStartStream (fs : List Fd) (next : Int) (hx : fs.length ≤ 1048576) (hb : ∀ b ∈ fs, b.f.length ≤ 1048576) : Meets Tryz.prog 127 [rowFd 101 fs, .v (.int .i64 next)] (fun r => r = resS (stL fs next)) := by
  refine Meets.introO mixed (hint []) (fun k => (sel (k == 9) [996,0,2,3,4,7,914,1,906,5,6,8,9,10,11,8,5,6,9,10,11,5,1,6,8,9,10,11] (sel (k == 7) [997,1,9,3,0,2,3,4,5,6,7,9,10,8,11,12,13,14,15] []))) Tryz.func127 rfl (by decide) res_127 rty_127 (by kernel_rfl) ?_; 
  simp -dsimp -implicitDefEqProofs only [go_sem, rowFd]
  repeat (first | with_reducible refine ask.of (by first | omega | decide) ?_ | simp -dsimp -implicitDefEqProofs only [go_sem, initE, rowFd, bl3])
  refine CallE.of (c_iValidFields fs hx hb) (by rintro r rfl; (repeat' first | exact trivial | exact pure_rowB _ | exact pure_rowO _ | exact pure_rowI _ | exact pure_rowBB _ | exact pure_rowPk _ _ | exact pure_rowSn _ _ | exact pure_rowFd _ _ | exact pure_rowBBB _ | exact pure_rowCl _ _ | exact pure_rowTb _ _ _ | refine And.intro ?_ ?_)) (by simp -dsimp -implicitDefEqProofs only [go_sem, rowFd]) ?_
  rintro r rfl
  simp -dsimp -implicitDefEqProofs only [go_sem, rowFd]
  by_cases h : okF fs ∧ 0 ≤ next ∧ next ≤ 1000000000
  · rw [stL_yes h, decide_eq_true h.1]
    repeat' (first | with_reducible refine ask.of (by first | omega | decide) ?_ | with_reducible refine ifB'.no (by omega) ?_ | simp -dsimp -implicitDefEqProofs only [go_sem, initE, rowFd, bl3, Bool.not_true, decide_true, decide_false])
    refine CallE.of (c_number next 8 (by decide)) (by rintro r rfl; (repeat' first | exact trivial | exact pure_rowB _ | exact pure_rowO _ | exact pure_rowI _ | exact pure_rowBB _ | exact pure_rowPk _ _ | exact pure_rowSn _ _ | exact pure_rowFd _ _ | exact pure_rowBBB _ | exact pure_rowCl _ _ | exact pure_rowTb _ _ _ | refine And.intro ?_ ?_)) (by simp -dsimp -implicitDefEqProofs only [go_sem, show ((8 : Nat) : Int) = 8 from rfl]) ?_
    rintro r rfl
    simp -dsimp -implicitDefEqProofs only [go_sem, show ((8 : Nat) : Int) = 8 from rfl]
    repeat' (first | with_reducible refine ask.of (by first | omega | decide) ?_ | simp -dsimp -implicitDefEqProofs only [go_sem, initE, rowFd, bl3, ra_length])
    have hf := h.1.2.1
    refine LoopE.cnt fs.length (fun i s => s.env 0 = .rd .ent 101 3 (ra fdC fs) ∧ s.env 1 = .v (.int .i64 next) ∧ s.env 4 = .ptr [4] 0 0 0 ∧ s.env 5 = .v (.slice none 0 0) ∧ s.env 6 = .v (.int .i64 0) ∧ s.env 7 = .ptr [7] 0 0 0 ∧ s.env 28 = .rd .ent 101 3 (ra fdC fs) ∧ s.env 29 = .v (.int .i64 fs.length) ∧ s.env 30 = .v (.int .i64 i) ∧
      s.σ [4] = some (.box 39 [.v (.bool false), .v (.slice none 0 0), .v (.int .i64 0), .v (.slice none 0 0)]) ∧ s.σ [7] = some (.box 139 [.v (.int .i64 1), .v (.int .i64 0), .v (.int .i64 fs.length), .ref [26]]) ∧ s.σ [26] = some (.row 48 1 (ra byC (leB 8 next :: (fs.take i).map hdF)))) ⟨by simp -dsimp -implicitDefEqProofs only [go_sem, initE, rowFd], by simp -dsimp -implicitDefEqProofs only [go_sem, initE], by simp -dsimp -implicitDefEqProofs only [go_sem], by simp -dsimp -implicitDefEqProofs only [go_sem], by simp -dsimp -implicitDefEqProofs only [go_sem], by simp -dsimp -implicitDefEqProofs only [go_sem], by simp -dsimp -implicitDefEqProofs only [go_sem, initE, rowFd], by simp -dsimp -implicitDefEqProofs only [go_sem, initE, rowFd, ra_length], by simp -dsimp -implicitDefEqProofs only [go_sem] <;> rfl, by simp -dsimp -implicitDefEqProofs only [go_sem], by simp -dsimp -implicitDefEqProofs only [go_sem], by simp -dsimp -implicitDefEqProofs only [go_sem] <;> rfl⟩ ?_
    rintro i ⟨e, σ⟩ hi ⟨h0, h1, h4, h5, h6, h7, h28, h29, h8, hs4, hs7, hs26⟩ K hK
    simp only at h0 h1 h4 h5 h6 h7 h28 h29 h8 hs4 hs7 hs26
    simp -dsimp -implicitDefEqProofs only [go_sem, h0, h1, h4, h5, h6, h7, h28, h29, h8, hs4, hs7, hs26]
    refine ifB'.of (fun hlt => ?_) (fun hlt => ?_)
    · have hlt : i < fs.length := by omega
      repeat (first | with_reducible refine ask.of (by first | omega | decide) ?_ | simp -dsimp -implicitDefEqProofs only [go_sem, h0, h1, h4, h5, h6, h7, h28, h29, h8, hs4, hs7, hs26, Fd_at hlt, fdC, bl3])
      have hfd := hf fs[i] (List.getElem_mem hlt)
      have hnm := fd_name hfd
      have hby := fd_byte hfd
      repeat' (first | with_reducible refine And.intro ?_ ?_ | with_reducible refine ask.of (by first | omega | decide | (simp; omega)) ?_ | simp -dsimp -implicitDefEqProofs only [go_sem, h0, h1, h4, h5, h6, h7, h28, h29, h8, hs4, hs7, hs26, Fd_at hlt, fdC, bl3, List.take_succ_cons])
      all_goals
        refine hK _ hlt ?_
        simp -dsimp -implicitDefEqProofs only [go_sem, h0, h1, h4, h5, h6, h7, h28, h29, h8, hs4, hs7, hs26, wrap_succ (show i < 4611686018427387904 by omega), hby.1, hby.2]
        have ee : ra byC (leB 8 next :: (fs.take i).map hdF) ++ [[AV.row 5 1 (bytesA (hdF fs[i]))]] = ra byC (leB 8 next :: (fs.take (i + 1)).map hdF) := by
          rw [← hd_take hlt]; simp [ra, byC]
        exact congrArg (fun z => some (OB.row 48 1 z)) ee
    · have hlt : i = fs.length := by omega
      subst hlt
      have hw := hd_wBB (next := next) h.1
      rw [List.take_length] at hs26
      have he : encM { k := 1, f := 0, n := (fs.length : Int), bs := leB 8 next :: fs.map hdF } = msBody (hdMs fs next) := hd_enc h.1
      repeat' (first
        | with_reducible refine ask.of (by omega) ?_
        | (with_reducible refine And.intro ?_ ?_)
        | (refine CallE.of (c_fieldsCopy fs hx hb) ?_ ?_ ?_; rotate_left; (· (simp -dsimp -implicitDefEqProofs only [go_sem, h0, h1, h4, h5, h6, h7, h28, h29, h8, hs4, hs7, hs26, bl3, hdMs, msC, rowFd]; done)); rotate_left; (· (rintro r rfl; (repeat' first | exact trivial | exact pure_rowB _ | exact pure_rowO _ | exact pure_rowI _ | exact pure_rowBB _ | exact pure_rowPk _ _ | exact pure_rowSn _ _ | exact pure_rowFd _ _ | exact pure_rowBBB _ | exact pure_rowCl _ _ | exact pure_rowTb _ _ _ | refine And.intro ?_ ?_))); rintro r rfl; try simp -dsimp -implicitDefEqProofs only [go_sem, h0, h1, h4, h5, h6, h7, h28, h29, h8, hs4, hs7, hs26, bl3, hdMs, msC, rowFd])
        | (refine CallE.of (c_implEncodeMessage (hdMs fs next) (hd_len hx h.1.1.2 hw)) ?_ ?_ ?_; rotate_left; (· (simp -dsimp -implicitDefEqProofs only [go_sem, h0, h1, h4, h5, h6, h7, h28, h29, h8, hs4, hs7, hs26, bl3, hdMs, msC, rowFd]; done)); rotate_left; (· (rintro r rfl; (repeat' first | exact trivial | exact pure_rowB _ | exact pure_rowO _ | exact pure_rowI _ | exact pure_rowBB _ | exact pure_rowPk _ _ | exact pure_rowSn _ _ | exact pure_rowFd _ _ | exact pure_rowBBB _ | exact pure_rowCl _ _ | exact pure_rowTb _ _ _ | refine And.intro ?_ ?_))); rintro r rfl; try simp -dsimp -implicitDefEqProofs only [go_sem, h0, h1, h4, h5, h6, h7, h28, h29, h8, hs4, hs7, hs26, bl3, hdMs, msC, rowFd])
        | with_reducible refine ifB'.no (by omega) ?_
        | simp -dsimp -implicitDefEqProofs only [go_sem, h0, h1, h4, h5, h6, h7, h28, h29, h8, hs4, hs7, hs26, bl3, hdMs, msC, rowFd])
      all_goals
        rw [he, bbA_zeros]; rfl
  · rw [stL_no h]
    repeat' (first | exact absurd ⟨by assumption, by omega, by omega⟩ h | with_reducible refine ask.of (by first | omega | decide) ?_ | ((with_reducible refine ifB'.of (fun _ => ?_) (fun _ => ?_))) | simp -dsimp -implicitDefEqProofs only [go_sem, bl3, Bool.not_true, Bool.not_false, decide_true, decide_false])
    all_goals rfl
end Go.Ev
set_option linter.unusedSimpArgs false
set_option linter.unusedVariables false
namespace Go.Ev
open Go Go.RowKit Go.Proofs
def clOk (f : Fd) (c : Cl) : Prop := if c.z = true then c.i = 0 ∧ c.f.length = 0 else if f.k = 0 then (c.i = 0 ∨ c.i = 1) ∧ c.f.length = 0 else if f.k = 1 then fitsB f.w.toNat c.i = true ∧ c.f.length = 0 else c.i = 0
instance (f : Fd) (c : Cl) : Decidable (clOk f c) := by unfold clOk; infer_instance
def i64r (n : Int) : Prop := -9223372036854775808 ≤ n ∧ n ≤ 9223372036854775807
theorem cl_d {f : Fd} {c : Cl} {q : Prop} [Decidable q] (h : q ↔ clOk f c) : decide q = decide (clOk f c) := decide_eq_decide.2 h
theorem cl_f {f : Fd} {c : Cl} (h : ¬ clOk f c) : false = decide (clOk f c) := (decide_eq_false h).symm
theorem cl_t {f : Fd} {c : Cl} (h : clOk f c) : true = decide (clOk f c) := (decide_eq_true h).symm
theorem packIC_one {n x : Int} (h : isW n = true) : (packIC [x] n).2 = if fitsB n.toNat x = true then 0 else 1 := by
  unfold packIC
  rw [if_pos h]
  by_cases h2 : fitsB n.toNat x = true
  · rw [if_pos h2, if_pos (by simp [h2])]
  · rw [if_neg h2, if_neg (by simp [h2])]
theorem fd_w {f : Fd} (h : fdOk f) (h1 : f.k = 1) : ∃ w : Nat, f.w = w ∧ (w = 1 ∨ w = 2 ∨ w = 4 ∨ w = 8) := by
  have := h.2
  exact ⟨f.w.toNat, by omega, by omega⟩
set_option maxRecDepth 4000 in
theorem c_l2cellOK (f : Fd) (c : Cl) (hf : fdOk f) (hb : c.f.length ≤ 1048576) : Meets Tryz.prog 144 [.agg (fdC f), .agg (clC c)] (fun r => r = .v (.bool (decide (clOk f c)))) := by
  refine Meets.intro mixed (hint []) Tryz.func144 rfl (by decide) res_144 rty_144 (by kernel_rfl) ?_; 
  simp -dsimp -implicitDefEqProofs only [go_sem, fdC, clC]
  cases hz : c.z
  · by_cases h1 : f.k = 1
    · obtain ⟨w, hw, hww⟩ := fd_w hf h1
      simp -dsimp -implicitDefEqProofs only [go_sem, hz, h1, hw, decide_false, decide_true]
      repeat (first | with_reducible refine ask.of (by omega) ?_ | simp -dsimp -implicitDefEqProofs only [go_sem, hz, h1, hw, decide_false, decide_true])
      refine CallE.of (c_l1fits c.i w hww) (by rintro r rfl; (repeat' first | exact trivial | exact pure_rowB _ | exact pure_rowO _ | exact pure_rowI _ | exact pure_rowBB _ | exact pure_rowPk _ _ | exact pure_rowSn _ _ | exact pure_rowFd _ _ | exact pure_rowBBB _ | exact pure_rowCl _ _ | exact pure_rowTb _ _ _ | refine And.intro ?_ ?_)) (by simp -dsimp -implicitDefEqProofs only [go_sem]) ?_
      rintro r rfl
      simp -dsimp -implicitDefEqProofs only [go_sem]
      have e : clOk f c ↔ fitsB w c.i = true ∧ c.f.length = 0 := by
        unfold clOk
        rw [hz, if_neg (by decide), if_neg (by omega), if_pos h1, hw]; simp
      cases hq : fitsB w c.i
      · simp -dsimp -implicitDefEqProofs only [go_sem, hq]
        exact cl_f (by rw [e, hq]; simp)
      · simp -dsimp -implicitDefEqProofs only [go_sem, hq]
        repeat (first | with_reducible refine ask.of (by omega) ?_ | simp -dsimp -implicitDefEqProofs only [go_sem, hq])
        exact cl_d (by rw [e, hq]; simp)
    · repeat' (first | with_reducible refine ifB'.of (fun h => ?_) (fun h => ?_) | with_reducible refine ask.of (by omega) ?_ | omega | ((with_reducible refine cl_f ?_); unfold clOk; simp only [hz, h1, if_false, Bool.false_eq_true]; split <;> omega) | ((with_reducible refine cl_t ?_); unfold clOk; simp only [hz, h1, if_false, Bool.false_eq_true]; split <;> omega) | ((with_reducible refine cl_d ?_); unfold clOk; simp only [hz, h1, if_false, Bool.false_eq_true]; split <;> omega) | simp -dsimp -implicitDefEqProofs only [go_sem, hz, decide_true])
  · repeat' (first | with_reducible refine ifB'.of (fun h => ?_) (fun h => ?_) | with_reducible refine ask.of (by omega) ?_ | ((with_reducible refine cl_f ?_); unfold clOk; simp only [hz, if_true]; omega) | ((with_reducible refine cl_t ?_); unfold clOk; simp only [hz, if_true]; omega) | ((with_reducible refine cl_d ?_); unfold clOk; simp only [hz, if_true]; omega) | simp -dsimp -implicitDefEqProofs only [go_sem, hz, decide_true])
set_option maxRecDepth 4000 in
theorem c_cellOk (f : Fd) (c : Cl) (hf : fdOk f) (hb : c.f.length ≤ 1048576) (hi : i64r c.i) : Meets Tryz.prog 119 [.agg (fdC f), .agg (clC c)] (fun r => r = .v (.bool (decide (clOk f c)))) := by
  refine Meets.intro mixed (hint []) Tryz.func119 rfl (by decide) res_119 rty_119 (by kernel_rfl) ?_; 
  simp -dsimp -implicitDefEqProofs only [go_sem, fdC, clC]
  cases hz : c.z
  · by_cases h1 : f.k = 1
    · obtain ⟨w, hw, hww⟩ := fd_w hf h1
      have hW : isW (w : Int) = true := isW_of hww
      have e : clOk f c ↔ fitsB w c.i = true ∧ c.f.length = 0 := by
        unfold clOk
        rw [hz, if_neg (by decide), if_neg (by omega), if_pos h1, hw]; simp
      simp -dsimp -implicitDefEqProofs only [go_sem, hz, h1, hw, decide_false, decide_true]
      repeat (first | with_reducible refine ask.of (by omega) ?_ | simp -dsimp -implicitDefEqProofs only [go_sem, hz, h1, hw, decide_false, decide_true])
      repeat (first | with_reducible refine ask.of (by decide) ?_ | simp -dsimp -implicitDefEqProofs only [go_sem, intA_one, show intC c.i = [.v (.int .i64 c.i)] from rfl])
      refine CallE.of (c_implPackInts [c.i] w (by simp) (by intro x hx; simp at hx; subst hx; exact hi)) (by rintro r rfl; (repeat' first | exact trivial | exact pure_rowB _ | exact pure_rowO _ | exact pure_rowI _ | exact pure_rowBB _ | exact pure_rowPk _ _ | exact pure_rowSn _ _ | exact pure_rowFd _ _ | exact pure_rowBBB _ | exact pure_rowCl _ _ | exact pure_rowTb _ _ _ | refine And.intro ?_ ?_)) (by simp -dsimp -implicitDefEqProofs only [go_sem]) ?_
      rintro r rfl
      simp -dsimp -implicitDefEqProofs only [go_sem]
      cases hq : fitsB w c.i
      · have ep : (packIC [c.i] (w : Int)).2 = 1 := by rw [packIC_one hW, Int.toNat_natCast, hq]; rfl
        simp -dsimp -implicitDefEqProofs only [go_sem, ep, decide_false]
        exact cl_f (by rw [e, hq]; simp)
      · have ep : (packIC [c.i] (w : Int)).2 = 0 := by rw [packIC_one hW, Int.toNat_natCast, hq]; rfl
        simp -dsimp -implicitDefEqProofs only [go_sem, ep, decide_true]
        repeat (first | with_reducible refine ask.of (by omega) ?_ | simp -dsimp -implicitDefEqProofs only [go_sem, hq])
        exact cl_d (by rw [e, hq]; simp)
    · repeat' (first | with_reducible refine ifB'.of (fun h => ?_) (fun h => ?_) | with_reducible refine ask.of (by omega) ?_ | omega | ((with_reducible refine cl_f ?_); unfold clOk; simp only [hz, h1, if_false, Bool.false_eq_true]; split <;> omega) | ((with_reducible refine cl_t ?_); unfold clOk; simp only [hz, h1, if_false, Bool.false_eq_true]; split <;> omega) | ((with_reducible refine cl_d ?_); unfold clOk; simp only [hz, h1, if_false, Bool.false_eq_true]; split <;> omega) | simp -dsimp -implicitDefEqProofs only [go_sem, hz, decide_true])
  · repeat' (first | with_reducible refine ifB'.of (fun h => ?_) (fun h => ?_) | with_reducible refine ask.of (by omega) ?_ | ((with_reducible refine cl_f ?_); unfold clOk; simp only [hz, if_true]; omega) | ((with_reducible refine cl_t ?_); unfold clOk; simp only [hz, if_true]; omega) | ((with_reducible refine cl_d ?_); unfold clOk; simp only [hz, if_true]; omega) | simp -dsimp -implicitDefEqProofs only [go_sem, hz, decide_true])
end Go.Ev
set_option linter.unusedSimpArgs false
set_option linter.unusedVariables false
namespace Go.Ev
open Go Go.RowKit Go.Proofs
structure Tb where
  r : Int
  c : List Cl
def tbC (T : Nat) (x : Tb) : List AV := [.v (.int .i64 x.r), .row T 3 (ra clC x.c)]
theorem c_szTable (x : Tb) (left : Nat) (hl : left ≤ 1048576) (hx : x.c.length ≤ 140737488355328) (hb : ∀ b ∈ x.c, b.f.length ≤ 140737488355328) : Meets Tryz.prog 49 [.agg (tbC 165 x), .v (.int .i64 left)] (fun r => r = .v (.int .i64 (szR left (x.c.length + szL clW x.c)))) := by
  refine Meets.intro mixed (hint []) Tryz.func49 rfl (by decide) res_49 rty_49 (by kernel_rfl) ?_; 
  simp -dsimp -implicitDefEqProofs only [go_sem, tbC]
  repeat (first | with_reducible refine ask.of (by omega) ?_ | simp -dsimp -implicitDefEqProofs only [go_sem, bleF])
  refine CallE.of (c_szCellS x.c left hl hx hb) (by rintro r rfl; (repeat' first | exact trivial | exact pure_rowB _ | exact pure_rowO _ | exact pure_rowI _ | exact pure_rowBB _ | exact pure_rowPk _ _ | exact pure_rowSn _ _ | exact pure_rowFd _ _ | exact pure_rowBBB _ | exact pure_rowCl _ _ | exact pure_rowTb _ _ _ | refine And.intro ?_ ?_)) (by simp -dsimp -implicitDefEqProofs only [go_sem, rowCl]) ?_
  rintro r rfl
  simp -dsimp -implicitDefEqProofs only [go_sem, rowCl]
  by_cases h2 : x.c.length + szL clW x.c ≤ left
  · rw [szR_ok h2]
    refine ifB'.of (fun h => by omega) (fun h => ?_)
    simp -dsimp -implicitDefEqProofs only [go_sem]
  · rw [szR_no h2]
    simp -dsimp -implicitDefEqProofs only [go_sem, show decide ((-1 : Int) < 0) = true from rfl]
theorem c_toTable (x : Tb) (hx : x.c.length ≤ 1048576) (hb : ∀ b ∈ x.c, b.f.length ≤ 1048576) : Meets Tryz.prog 63 [.agg (tbC 165 x)] (fun r => r = .agg (tbC 149 x)) := by
  refine Meets.intro mixed (hint []) Tryz.func63 rfl (by decide) res_63 rty_63 (by kernel_rfl) ?_; 
  simp -dsimp -implicitDefEqProofs only [go_sem, tbC]
  repeat (first | with_reducible refine ask.of (by omega) ?_ | simp -dsimp -implicitDefEqProofs only [go_sem, bleF])
  refine CallE.of (c_toCellS x.c hx hb) (by rintro r rfl; (repeat' first | exact trivial | exact pure_rowB _ | exact pure_rowO _ | exact pure_rowI _ | exact pure_rowBB _ | exact pure_rowPk _ _ | exact pure_rowSn _ _ | exact pure_rowFd _ _ | exact pure_rowBBB _ | exact pure_rowCl _ _ | exact pure_rowTb _ _ _ | refine And.intro ?_ ?_)) (by simp -dsimp -implicitDefEqProofs only [go_sem, rowCl]) ?_
  rintro r rfl
  simp -dsimp -implicitDefEqProofs only [go_sem, rowCl]
  repeat (first | with_reducible refine ask.of (by omega) ?_ | simp -dsimp -implicitDefEqProofs only [go_sem, bleF])
theorem c_eqTable (x : Tb) (hx : x.c.length ≤ 1048576) (hb : ∀ b ∈ x.c, b.f.length ≤ 1048576) : Meets Tryz.prog 79 [.agg (tbC 149 x), .agg (tbC 149 x)] (fun r => r = .v (.bool true)) := by
  refine Meets.intro mixed (hint []) Tryz.func79 rfl (by decide) res_79 rty_79 (by kernel_rfl) ?_; 
  simp -dsimp -implicitDefEqProofs only [go_sem, tbC, decide_true]
  repeat (first | with_reducible refine ask.of (by omega) ?_ | simp -dsimp -implicitDefEqProofs only [go_sem, bleF, decide_true])
  refine CallE.of (c_eqCellS x.c hx hb) (by rintro r rfl; (repeat' first | exact trivial | exact pure_rowB _ | exact pure_rowO _ | exact pure_rowI _ | exact pure_rowBB _ | exact pure_rowPk _ _ | exact pure_rowSn _ _ | exact pure_rowFd _ _ | exact pure_rowBBB _ | exact pure_rowCl _ _ | exact pure_rowTb _ _ _ | refine And.intro ?_ ?_)) (by simp -dsimp -implicitDefEqProofs only [go_sem, rowCl, Bool.not_true]) ?_
  rintro r rfl
  simp -dsimp -implicitDefEqProofs only [go_sem, rowCl, Bool.not_true]
def colL (xs : List Cl) (R i : Nat) : List Cl := (xs.take ((i + 1) * R)).drop (i * R)
theorem wrap_mul {a b : Nat} (h : a * b ≤ 9223372036854775807) : IntKind.i64.wrap ((a : Int) * (b : Int)) = ((a * b : Nat) : Int) := by
  rw [← Int.natCast_mul]; exact wrap_nat h
theorem c_l2column (xs : List Cl) (R i : Nat) (hR : R ≤ 100) (hi : i ≤ 1000) (h : (i + 1) * R ≤ xs.length) : Meets Tryz.prog 143 [.agg [.v (.int .i64 R), .rd .ent 149 3 (ra clC xs)], .v (.int .i64 i)] (fun r => r = .rd .ent 149 3 (ra clC (colL xs R i))) := by
  have hm : (i + 1) * R ≤ 1001 * 100 := Nat.mul_le_mul (by omega) hR
  have hm1 : i * R ≤ (i + 1) * R := Nat.mul_le_mul_right _ (by omega)
  refine Meets.intro mixed (hint []) Tryz.func143 rfl (by decide) res_143 rty_143 (by kernel_rfl) ?_; 
  simp -dsimp -implicitDefEqProofs only [go_sem]
  repeat (first | with_reducible refine ask.of (by omega) ?_ | simp -dsimp -implicitDefEqProofs only [go_sem, bleF, wrap_succ (show i < 4611686018427387904 by omega), wrap_mul (show i * R ≤ 9223372036854775807 by omega), wrap_mul (show (i + 1) * R ≤ 9223372036854775807 by omega)])
  rfl
theorem c_column (xs : List Cl) (R i : Nat) (hR : R ≤ 100) (hi : i ≤ 1000) (h : (i + 1) * R ≤ xs.length) : Meets Tryz.prog 118 [.agg [.v (.int .i64 R), .rd .ent 149 3 (ra clC xs)], .v (.int .i64 i)] (fun r => r = .rd .ent 149 3 (ra clC (colL xs R i))) := by
  have hm : (i + 1) * R ≤ 1001 * 100 := Nat.mul_le_mul (by omega) hR
  have hm1 : i * R ≤ (i + 1) * R := Nat.mul_le_mul_right _ (by omega)
  refine Meets.intro mixed (hint []) Tryz.func118 rfl (by decide) res_118 rty_118 (by kernel_rfl) ?_; 
  simp -dsimp -implicitDefEqProofs only [go_sem]
  repeat (first | with_reducible refine ask.of (by omega) ?_ | simp -dsimp -implicitDefEqProofs only [go_sem, bleF, wrap_succ (show i < 4611686018427387904 by omega), wrap_mul (show i * R ≤ 9223372036854775807 by omega), wrap_mul (show (i + 1) * R ≤ 9223372036854775807 by omega)])
  rfl
theorem colL_length {xs : List Cl} {R i : Nat} (h : (i + 1) * R ≤ xs.length) : (colL xs R i).length = R := by
  have : (i + 1) * R = i * R + R := by rw [Nat.add_mul, Nat.one_mul]
  simp [colL]; omega
theorem colL_mem {xs : List Cl} {R i : Nat} {c : Cl} (h : c ∈ colL xs R i) : c ∈ xs := List.mem_of_mem_take (List.mem_of_mem_drop h)
theorem colL_sz {xs : List Cl} {R i : Nat} : szL clW (xs.take (i * R)) + szL clW (colL xs R i) = szL clW (xs.take ((i + 1) * R)) := by
  have hm1 : i * R ≤ (i + 1) * R := Nat.mul_le_mul_right _ (by omega)
  have e : xs.take ((i + 1) * R) = xs.take (i * R) ++ colL xs R i := by
    have := List.take_append_drop (i * R) (xs.take ((i + 1) * R))
    rw [List.take_take, Nat.min_eq_left hm1] at this
    exact this.symm
  rw [e]
  simp [szL]
def dstep (acc : List (List UInt8)) (c : Cl) : List (List UInt8) := if c.z = false ∧ c.f ∉ acc then acc ++ [c.f] else acc
def dst (xs : List Cl) : List (List UInt8) := xs.foldl dstep []
theorem dst_succ {xs : List Cl} {i : Nat} (h : i < xs.length) : dst (xs.take (i + 1)) = dstep (dst (xs.take i)) xs[i] := by
  rw [List.take_succ_eq_append_getElem h, dst, List.foldl_append]; rfl
theorem dstep_le (acc : List (List UInt8)) (c : Cl) : acc.length ≤ (dstep acc c).length := by
  unfold dstep; split <;> simp
theorem foldl_le : ∀ (xs : List Cl) (acc : List (List UInt8)), acc.length ≤ (xs.foldl dstep acc).length
  | [], acc => Nat.le_refl _
  | x :: xs, acc => Nat.le_trans (dstep_le acc x) (foldl_le xs _)
theorem dst_le (xs : List Cl) (i : Nat) : (dst (xs.take i)).length ≤ (dst xs).length := by
  have e : dst xs = (xs.drop i).foldl dstep (dst (xs.take i)) := by
    unfold dst
    rw [← List.foldl_append, List.take_append_drop]
  rw [e]; exact foldl_le _ _
theorem dst_len (xs : List Cl) : ∀ i, i ≤ xs.length → (dst (xs.take i)).length ≤ i
  | 0, _ => by simp [dst]
  | i + 1, h => by
    rw [dst_succ (by omega)]
    have := dst_len xs i (by omega)
    unfold dstep; split <;> simp <;> omega
theorem dst_mem {xs : List Cl} : ∀ {i : Nat} {b : List UInt8}, i ≤ xs.length → b ∈ dst (xs.take i) → ∃ c ∈ xs, c.f = b
  | 0, b, _, h => by simp [dst] at h
  | i + 1, b, hi, h => by
    rw [dst_succ (by omega)] at h
    unfold dstep at h
    split at h
    · rcases List.mem_append.1 h with h | h
      · exact dst_mem (by omega) h
      · exact ⟨_, List.getElem_mem (by omega), (List.mem_singleton.1 h).symm⟩
    · exact dst_mem (by omega) h
theorem dstep_no {acc : List (List UInt8)} {c : Cl} (h : ¬ (c.z = false ∧ c.f ∉ acc)) : dstep acc c = acc := if_neg h
theorem dstep_yes {acc : List (List UInt8)} {c : Cl} (h : c.z = false ∧ c.f ∉ acc) : dstep acc c = acc ++ [c.f] := if_pos h
theorem c_l2placeE (xs : List (List UInt8)) (t : List UInt8) (hx : xs.length ≤ 1048576) (hb : ∀ b ∈ xs, b.length ≤ 140737488355328) (ht : t.length ≤ 140737488355328) : Meets Tryz.prog 146 [rowBE xs, rowB t] (fun r => r = .v (.int .i64 (plI xs t))) :=
  Meets.look (bs := [rowBB xs, rowB t]) ⟨look_rowBE xs, Look.refl _, trivial⟩ (c_l2place xs t hx hb ht)
theorem c_l2texts (xs : List Cl) (m : Nat) (hm : m ≤ 1000) (hx : xs.length ≤ 1048576) (hb : ∀ b ∈ xs, b.f.length ≤ 1048576) : Meets Tryz.prog 145 [.rd .ent 149 3 (ra clC xs), .v (.int .i64 m)] (fun r => ∃ ys, r = rowBE ys ∧ (m < ys.length ↔ m < (dst xs).length)) := by
  refine Meets.intro mixed (hint [(5, 232)]) Tryz.func145 rfl (by decide) res_145 rty_145 (by kernel_rfl) ?_; 
  simp -dsimp -implicitDefEqProofs only [go_sem]
  refine LoopE.cnt xs.length (fun i s => s.env 0 = .rd .ent 149 3 (ra clC xs) ∧ s.env 1 = .v (.int .i64 m) ∧ s.env 5 = .ref [5] ∧ s.env 6 = .v (.int .i64 i) ∧ s.σ [5] = some (.row 48 1 (ra byE (dst (xs.take i))))) ⟨by simp -dsimp -implicitDefEqProofs only [go_sem, initE], by simp -dsimp -implicitDefEqProofs only [go_sem, initE], by simp -dsimp -implicitDefEqProofs only [go_sem], by simp -dsimp -implicitDefEqProofs only [go_sem], by simp -dsimp -implicitDefEqProofs only [go_sem] <;> rfl⟩ ?_
  rintro i ⟨e, σ⟩ hi ⟨h0, h1, h5, h6, hs⟩ K hK
  simp only at h0 h1 h5 h6 hs
  simp -dsimp -implicitDefEqProofs only [go_sem, h0, h1, h5, h6, hs]
  refine ifB'.of (fun hlt => ?_) (fun hlt => ?_)
  · have hlt : i < xs.length := by omega
    simp -dsimp -implicitDefEqProofs only [go_sem, h0, h1, h5, h6, hs]
    refine ifB'.of (fun hle => ?_) (fun hle => ?_)
    · have hdl := dst_len xs i hi
      have hdb : ∀ b ∈ dst (xs.take i), b.length ≤ 140737488355328 := fun b h => by
        obtain ⟨c, hc, rfl⟩ := dst_mem hi h
        have := hb c hc; omega
      simp -dsimp -implicitDefEqProofs only [go_sem, h0, h1, h5, h6, hs, Cl_at hlt, clC]
      repeat (first | with_reducible refine ask.of (by omega) ?_ | simp -dsimp -implicitDefEqProofs only [go_sem, h0, h1, h5, h6, hs, Cl_at hlt, clC, bleF])
      cases hz : xs[i].z
      · simp -dsimp -implicitDefEqProofs only [go_sem, h0, h1, h5, h6, hs, hz, Bool.not_false]
        repeat (first | with_reducible refine ask.of (by omega) ?_ | simp -dsimp -implicitDefEqProofs only [go_sem, h0, h1, h5, h6, hs, hz, Cl_at hlt, clC, bleF, Bool.not_false])
        refine CallE.of (c_l2placeE (dst (xs.take i)) xs[i].f (by omega) hdb (by have := hb _ (List.getElem_mem hlt); omega)) (by rintro r rfl; (repeat' first | exact trivial | exact pure_rowB _ | exact pure_rowO _ | exact pure_rowI _ | exact pure_rowBB _ | exact pure_rowPk _ _ | exact pure_rowSn _ _ | exact pure_rowFd _ _ | exact pure_rowBBB _ | exact pure_rowCl _ _ | exact pure_rowTb _ _ _ | refine And.intro ?_ ?_)) (by simp -dsimp -implicitDefEqProofs only [go_sem, h0, h1, h5, h6, hs, hz, Bool.not_false]) ?_
        rintro r rfl
        simp -dsimp -implicitDefEqProofs only [go_sem, h0, h1, h5, h6, hs, hz, Bool.not_false]
        have hp := plI_nonneg (dst (xs.take i)) xs[i].f
        refine ifB'.of (fun hq => ?_) (fun hq => ?_)
        · have hnew : xs[i].f ∉ dst (xs.take i) := fun h => by have := hp.2 h; omega
          simp -dsimp -implicitDefEqProofs only [go_sem, h0, h1, h5, h6, hs, Cl_at hlt, clC]
          repeat (first | with_reducible refine ask.of (by first | omega | (simp; omega)) ?_ | simp -dsimp -implicitDefEqProofs only [go_sem, h0, h1, h5, h6, hs, hz, Cl_at hlt, clC, bleF, Bool.not_false])
          refine hK _ hlt ?_
          simp -dsimp -implicitDefEqProofs only [go_sem, h0, h1, h5, h6, hs, wrap_succ (show i < 4611686018427387904 by omega), dst_succ hlt, dstep_yes ⟨hz, hnew⟩]
        · have hold : xs[i].f ∈ dst (xs.take i) := hp.1 (by omega)
          simp -dsimp -implicitDefEqProofs only [go_sem, h0, h1, h5, h6, hs]
          refine hK _ hlt ?_
          simp -dsimp -implicitDefEqProofs only [go_sem, h0, h1, h5, h6, hs, wrap_succ (show i < 4611686018427387904 by omega), dst_succ hlt, dstep_no (fun h => h.2 hold)]
      · have hno : dstep (dst (xs.take i)) xs[i] = dst (xs.take i) := dstep_no (fun h => by rw [hz] at h; cases h.1)
        simp -dsimp -implicitDefEqProofs only [go_sem, h0, h1, h5, h6, hs, hz, Bool.not_true]
        refine hK _ hlt ?_
        simp -dsimp -implicitDefEqProofs only [go_sem, h0, h1, h5, h6, hs, wrap_succ (show i < 4611686018427387904 by omega), dst_succ hlt, hno]
    · simp -dsimp -implicitDefEqProofs only [go_sem, h0, h1, h5, h6, hs]
      refine ⟨_, rfl, ?_⟩
      have := dst_le xs i
      constructor <;> intro <;> omega
  · have : i = xs.length := by omega
    subst this
    simp -dsimp -implicitDefEqProofs only [go_sem, h0, h1, h5, h6, hs]
    exact ⟨_, rfl, by rw [List.take_length]⟩
end Go.Ev
