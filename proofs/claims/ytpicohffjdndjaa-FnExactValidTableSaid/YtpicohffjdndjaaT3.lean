/- Contracts: tables that are valid. -/
import Derived.Test.YtpicohffjdndjaaT2
set_option linter.unusedSimpArgs false
set_option linter.unusedVariables false
namespace Go.Ev
open Go Go.RowKit Go.Proofs
/-! ### maps that count texts -/
def mpI (l : List (List UInt8 × Int)) : List (Value × Value) := mpS (l.map fun p => (p.1, .int .i64 p.2))
theorem mpI_length (l : List (List UInt8 × Int)) : (mpI l).length = l.length := by simp [mpI, mpS]
def getI : List (List UInt8 × Int) → List UInt8 → Int
  | [], _ => 0
  | p :: l, t => if p.1 = t then p.2 else getI l t
def putI : List (List UInt8 × Int) → List UInt8 → Int → List (List UInt8 × Int)
  | [], t, n => [(t, n)]
  | p :: l, t, n => if p.1 = t then (t, n) :: l else p :: putI l t n
theorem mgetI (t : List UInt8) : ∀ l : List (List UInt8 × Int), (mget (mpI l) (.string ⟨t.toArray⟩)).getD (.int .i64 0) = .int .i64 (getI l t)
  | [] => rfl
  | p :: l => by
    show (sel (kEq (.string ⟨p.1.toArray⟩) (.string ⟨t.toArray⟩)) (some (Value.int .i64 p.2)) (mget (mpI l) _)).getD (.int .i64 0) = _
    rw [kEq_str, getI]
    by_cases h : p.1 = t
    · rw [decide_eq_true h, if_pos h]; rfl
    · rw [decide_eq_false h, if_neg h]; exact mgetI t l
theorem mputI (t : List UInt8) (n : Int) : ∀ l : List (List UInt8 × Int), mput (mpI l) (.string ⟨t.toArray⟩) (.int .i64 n) = mpI (putI l t n)
  | [] => rfl
  | p :: l => by
    show sel (kEq (.string ⟨p.1.toArray⟩) (.string ⟨t.toArray⟩)) ((.string ⟨t.toArray⟩, .int .i64 n) :: mpI l) ((.string ⟨p.1.toArray⟩, .int .i64 p.2) :: mput (mpI l) _ _) = _
    rw [kEq_str, putI]
    by_cases h : p.1 = t
    · rw [decide_eq_true h, if_pos h]; rfl
    · rw [decide_eq_false h, if_neg h, mputI t n l]; rfl
theorem putI_keys (t : List UInt8) (n : Int) : ∀ l : List (List UInt8 × Int), (putI l t n).map (·.1) = if t ∈ l.map (·.1) then l.map (·.1) else l.map (·.1) ++ [t]
  | [] => rfl
  | p :: l => by
    rw [putI]
    by_cases h : p.1 = t
    · rw [if_pos h, if_pos (by simp [h])]; simp [h]
    · have ih := putI_keys t n l
      rw [if_neg h, List.map_cons, ih]
      by_cases h2 : t ∈ l.map (·.1)
      · rw [if_pos h2, if_pos (by simp only [List.map_cons, List.mem_cons]; exact .inr h2)]; rfl
      · rw [if_neg h2, if_neg (by simp only [List.map_cons, List.mem_cons]; rintro (h3 | h3); exact h h3.symm; exact h2 h3)]; rfl
theorem putI_dst {l : List (List UInt8 × Int)} {acc : List (List UInt8)} {c : Cl} (h : l.map (·.1) = acc) (hz : c.z = false) (n : Int) : (putI l c.f n).map (·.1) = dstep acc c := by
  rw [putI_keys, h]
  unfold dstep
  by_cases h2 : c.f ∈ acc
  · rw [if_pos h2, if_neg (by simp [h2])]
  · rw [if_neg h2, if_pos ⟨hz, h2⟩]
/-! ### tables -/
def colOk (f : Fd) (xs : List Cl) : Prop := (∀ c ∈ xs, clOk f c) ∧ (f.k = 3 → (dst xs).length ≤ 40)
def okT (fs : List Fd) (r : Int) (xs : List Cl) : Prop := okF fs ∧ (0 ≤ r ∧ r ≤ 100 ∧ (xs.length : Int) = r * fs.length) ∧ (∀ i (h : i < fs.length), colOk fs[i] (colL xs r.toNat i)) ∧ szL clW xs ≤ 4000
noncomputable def tbB (fs : List Fd) (r : Int) (xs : List Cl) : Bool := @decide (okT fs r xs) (Classical.propDecidable _)
theorem tb_f {fs : List Fd} {r : Int} {xs : List Cl} (h : ¬ okT fs r xs) : false = tbB fs r xs := (@decide_eq_false _ (Classical.propDecidable _) h).symm
theorem tb_t {fs : List Fd} {r : Int} {xs : List Cl} (h : okT fs r xs) : true = tbB fs r xs := (@decide_eq_true _ (Classical.propDecidable _) h).symm
theorem tb_d {fs : List Fd} {r : Int} {xs : List Cl} {q : Prop} [hd : Decidable q] (h : q ↔ okT fs r xs) : decide q = tbB fs r xs := by
  by_cases hq : q
  · rw [decide_eq_true hq]; exact tb_t (h.1 hq)
  · rw [decide_eq_false hq]; exact tb_f (fun h' => hq (h.2 h'))
theorem tb_w {a : Nat} {R : Nat} (h : a ≤ 12) (hR : R ≤ 100) : a * R ≤ 1200 := Nat.le_trans (Nat.mul_le_mul h hR) (by decide)
set_option maxRecDepth 4000 in
theorem c_sValidTable (fs : List Fd) (r : Int) (xs : List Cl) (hf : fs.length ≤ 1048576) (hfb : ∀ b ∈ fs, b.f.length ≤ 1048576) (hx : xs.length + szL clW xs ≤ 1048576) : Meets Try.prog 81 [rowFd 96 fs, .agg (tbC 160 ⟨r, xs⟩)] (fun v => v = .v (.bool (tbB fs r xs))) := by
  refine Meets.intro mixed (hint []) Try.func81 rfl (by decide) res_81 rty_81 (by kernel_rfl) ?_; 
  have hxb : ∀ c ∈ xs, c.f.length ≤ 1048576 := fun c hc => by have := mem_clW hc; omega
  simp -dsimp -implicitDefEqProofs only [go_sem, Nat.reduceBEq, Nat.reduceAdd, Nat.reduceLeDiff, Nat.reduceSub, Int.reduceEq, rowFd, tbC]
  refine CallE.of (c_sValidFields fs hf hfb) (by rintro r rfl; (repeat' first | exact trivial | exact pure_rowB _ | exact pure_rowO _ | exact pure_rowI _ | exact pure_rowBB _ | exact pure_rowPk _ _ | exact pure_rowSn _ _ | exact pure_rowFd _ _ | exact pure_rowCl _ _ | refine And.intro ?_ ?_)) (by simp -dsimp -implicitDefEqProofs only [go_sem, Nat.reduceBEq, Nat.reduceAdd, Nat.reduceLeDiff, Nat.reduceSub, Int.reduceEq, rowFd]) ?_
  rintro r rfl
  simp -dsimp -implicitDefEqProofs only [go_sem, Nat.reduceBEq, Nat.reduceAdd, Nat.reduceLeDiff, Nat.reduceSub, Int.reduceEq, rowFd]
  by_cases hF : okF fs
  case neg =>
    simp -dsimp -implicitDefEqProofs only [go_sem, Nat.reduceBEq, Nat.reduceAdd, Nat.reduceLeDiff, Nat.reduceSub, Int.reduceEq, decide_eq_false hF, Bool.not_false]
    exact tb_f (fun h => hF h.1)
  have hn := hF.1
  simp -dsimp -implicitDefEqProofs only [go_sem, Nat.reduceBEq, Nat.reduceAdd, Nat.reduceLeDiff, Nat.reduceSub, Int.reduceEq, decide_eq_true hF, Bool.not_true]
  repeat (first | with_reducible refine ask.of (by omega) ?_ | simp -dsimp -implicitDefEqProofs only [go_sem, Nat.reduceBEq, Nat.reduceAdd, Nat.reduceLeDiff, Nat.reduceSub, Int.reduceEq, Bool.not_true])
  refine ifB'.of (fun h1 => ?_) (fun h1 => ?_)
  · simp -dsimp -implicitDefEqProofs only [go_sem, Nat.reduceBEq, Nat.reduceAdd, Nat.reduceLeDiff, Nat.reduceSub, Int.reduceEq]
    exact tb_f (fun h => by have := h.2.1.1; omega)
  simp -dsimp -implicitDefEqProofs only [go_sem, Nat.reduceBEq, Nat.reduceAdd, Nat.reduceLeDiff, Nat.reduceSub, Int.reduceEq]
  repeat (first | with_reducible refine ask.of (by omega) ?_ | simp -dsimp -implicitDefEqProofs only [go_sem, Nat.reduceBEq, Nat.reduceAdd, Nat.reduceLeDiff, Nat.reduceSub, Int.reduceEq, Bool.not_true])
  refine ifB'.of (fun h2 => ?_) (fun h2 => ?_)
  · simp -dsimp -implicitDefEqProofs only [go_sem, Nat.reduceBEq, Nat.reduceAdd, Nat.reduceLeDiff, Nat.reduceSub, Int.reduceEq]
    exact tb_f (fun h => by have := h.2.1.2.1; omega)
  obtain ⟨R, rfl⟩ := Int.eq_ofNat_of_zero_le (show 0 ≤ r by omega)
  have hR : R ≤ 100 := by omega
  have hnR := tb_w (a := fs.length) hn.2 hR
  simp -dsimp -implicitDefEqProofs only [go_sem, Nat.reduceBEq, Nat.reduceAdd, Nat.reduceLeDiff, Nat.reduceSub, Int.reduceEq, wrap_mul (show fs.length * R ≤ 9223372036854775807 by omega)]
  repeat (first | with_reducible refine ask.of (by omega) ?_ | simp -dsimp -implicitDefEqProofs only [go_sem, Nat.reduceBEq, Nat.reduceAdd, Nat.reduceLeDiff, Nat.reduceSub, Int.reduceEq, wrap_mul (show fs.length * R ≤ 9223372036854775807 by omega)])
  refine ifB'.of (fun h3 => ?_) (fun h3 => ?_)
  case refine_2 =>
    simp -dsimp -implicitDefEqProofs only [go_sem, Nat.reduceBEq, Nat.reduceAdd, Nat.reduceLeDiff, Nat.reduceSub, Int.reduceEq]
    refine tb_f (fun h => h3 ?_)
    have := h.2.1.2.2
    rw [this, Int.natCast_mul, Int.mul_comm]
  have hlen : xs.length = fs.length * R := by omega
  simp -dsimp -implicitDefEqProofs only [go_sem, Nat.reduceBEq, Nat.reduceAdd, Nat.reduceLeDiff, Nat.reduceSub, Int.reduceEq]
  refine LoopE.cnt fs.length (fun i s => s.env 0 = .rd .ent 96 3 (ra fdC fs) ∧ s.env 3 = .ptr [3] 0 0 0 ∧ s.env 5 = .v (.int .i64 (szL clW (xs.take (i * R)) : Nat)) ∧ s.env 6 = .v (.int .i64 i) ∧ s.σ [3] = some (.box 100 [.v (.int .i64 R), .rd .ent 160 3 (ra clC xs)]) ∧ ∀ k (h : k < fs.length), k < i → colOk fs[k] (colL xs R k)) ⟨by simp -dsimp -implicitDefEqProofs only [go_sem, Nat.reduceBEq, Nat.reduceAdd, Nat.reduceLeDiff, Nat.reduceSub, Int.reduceEq, initE, rowFd], by simp -dsimp -implicitDefEqProofs only [go_sem, Nat.reduceBEq, Nat.reduceAdd, Nat.reduceLeDiff, Nat.reduceSub, Int.reduceEq], by simp -dsimp -implicitDefEqProofs only [go_sem, Nat.reduceBEq, Nat.reduceAdd, Nat.reduceLeDiff, Nat.reduceSub, Int.reduceEq] <;> simp [szL], by simp -dsimp -implicitDefEqProofs only [go_sem, Nat.reduceBEq, Nat.reduceAdd, Nat.reduceLeDiff, Nat.reduceSub, Int.reduceEq], by simp -dsimp -implicitDefEqProofs only [go_sem, Nat.reduceBEq, Nat.reduceAdd, Nat.reduceLeDiff, Nat.reduceSub, Int.reduceEq], fun k _ h => absurd h (by omega)⟩ ?_
  rintro i ⟨e, σ⟩ hi ⟨h0, h3', h5, h6, hs, hc⟩ K hK
  simp only at h0 h3' h5 h6 hs
  simp -dsimp -implicitDefEqProofs only [go_sem, Nat.reduceBEq, Nat.reduceAdd, Nat.reduceLeDiff, Nat.reduceSub, Int.reduceEq, h0, h3', h5, h6, hs]
  refine ifB'.of (fun hlt => ?_) (fun hlt => ?_)
  · have hlt : i < fs.length := by omega
    have hiR : (i + 1) * R ≤ xs.length := by rw [hlen]; exact Nat.mul_le_mul_right _ (by omega)
    have hsz := colL_sz (xs := xs) (R := R) (i := i)
    have hszl : szL clW (xs.take ((i + 1) * R)) ≤ szL clW xs := szL_take_le clW xs _
    have hcl := colL_length hiR
    have hfd : fdOk fs[i] := hF.2.1 _ (List.getElem_mem _)
    simp -dsimp -implicitDefEqProofs only [go_sem, Nat.reduceBEq, Nat.reduceAdd, Nat.reduceLeDiff, Nat.reduceSub, Int.reduceEq, h0, h3', h5, h6, hs]
    repeat (first | with_reducible refine ask.of (by omega) ?_ | simp -dsimp -implicitDefEqProofs only [go_sem, Nat.reduceBEq, Nat.reduceAdd, Nat.reduceLeDiff, Nat.reduceSub, Int.reduceEq, h0, h3', h5, h6, hs, bleF])
    refine CallE.lend (c_l2column xs R i hR (by omega) hiR) (by simp -dsimp -implicitDefEqProofs only [go_sem, Nat.reduceBEq, Nat.reduceAdd, Nat.reduceLeDiff, Nat.reduceSub, Int.reduceEq, h0, h3', h5, h6, hs]) ?_
    rintro r rfl
    simp -dsimp -implicitDefEqProofs only [go_sem, Nat.reduceBEq, Nat.reduceAdd, Nat.reduceLeDiff, Nat.reduceSub, Int.reduceEq, h0, h3', h5, h6, hs]
    refine LoopE.cnt R (fun j s => s.env 0 = .rd .ent 96 3 (ra fdC fs) ∧ s.env 3 = .ptr [3] 0 0 0 ∧ s.env 5 = .v (.int .i64 (szL clW (xs.take (i * R)) + szL clW ((colL xs R i).take j) : Nat)) ∧ s.env 6 = .v (.int .i64 i) ∧ s.env 7 = .rd .ent 160 3 (ra clC (colL xs R i)) ∧ s.env 8 = .v (.int .i64 j) ∧ s.σ [3] = some (.box 100 [.v (.int .i64 R), .rd .ent 160 3 (ra clC xs)]) ∧ ∀ c ∈ (colL xs R i).take j, clOk fs[i] c) ⟨by simp -dsimp -implicitDefEqProofs only [go_sem, Nat.reduceBEq, Nat.reduceAdd, Nat.reduceLeDiff, Nat.reduceSub, Int.reduceEq, h0, h3', h5, h6, hs], by simp -dsimp -implicitDefEqProofs only [go_sem, Nat.reduceBEq, Nat.reduceAdd, Nat.reduceLeDiff, Nat.reduceSub, Int.reduceEq, h0, h3', h5, h6, hs], by simp -dsimp -implicitDefEqProofs only [go_sem, Nat.reduceBEq, Nat.reduceAdd, Nat.reduceLeDiff, Nat.reduceSub, Int.reduceEq, h0, h3', h5, h6, hs] <;> simp [szL], by simp -dsimp -implicitDefEqProofs only [go_sem, Nat.reduceBEq, Nat.reduceAdd, Nat.reduceLeDiff, Nat.reduceSub, Int.reduceEq, h0, h3', h5, h6, hs], by simp -dsimp -implicitDefEqProofs only [go_sem, Nat.reduceBEq, Nat.reduceAdd, Nat.reduceLeDiff, Nat.reduceSub, Int.reduceEq, h0, h3', h5, h6, hs], by simp -dsimp -implicitDefEqProofs only [go_sem, Nat.reduceBEq, Nat.reduceAdd, Nat.reduceLeDiff, Nat.reduceSub, Int.reduceEq, h0, h3', h5, h6, hs], by simp -dsimp -implicitDefEqProofs only [go_sem, Nat.reduceBEq, Nat.reduceAdd, Nat.reduceLeDiff, Nat.reduceSub, Int.reduceEq, h0, h3', h5, h6, hs], by simp⟩ ?_
    rintro j ⟨e, σ⟩ hj ⟨h0, h3', h5, h6, h7, h8, hs, ha⟩ K' hK'
    simp only at h0 h3' h5 h6 h7 h8 hs
    simp -dsimp -implicitDefEqProofs only [go_sem, Nat.reduceBEq, Nat.reduceAdd, Nat.reduceLeDiff, Nat.reduceSub, Int.reduceEq, h0, h3', h5, h6, h7, h8, hs, hcl]
    refine ifB'.of (fun hjl => ?_) (fun hjl => ?_)
    · have hjl : j < (colL xs R i).length := by omega
      have hcm : (colL xs R i)[j].f.length ≤ 1048576 := hxb _ (colL_mem (List.getElem_mem hjl))
      have hst := szL_take_succ clW hjl
      have hsl := szL_take_le clW (colL xs R i) (j + 1)
      have hcw : clW (colL xs R i)[j] = (colL xs R i)[j].f.length := rfl
      have e1 : IntKind.i64.wrap (((szL clW (xs.take (i * R)) + szL clW ((colL xs R i).take j) : Nat) : Int) + (colL xs R i)[j].f.length) = (szL clW (xs.take (i * R)) + szL clW ((colL xs R i).take (j + 1)) : Nat) := by rw [wrap_i64_of (by omega) (by omega)]; omega
      simp -dsimp -implicitDefEqProofs only [go_sem, Nat.reduceBEq, Nat.reduceAdd, Nat.reduceLeDiff, Nat.reduceSub, Int.reduceEq, h0, h3', h5, h6, h7, h8, hs, Fd_at hlt, Cl_at hjl, fdC, clC]
      repeat (first | with_reducible refine ask.of (by omega) ?_ | simp -dsimp -implicitDefEqProofs only [go_sem, Nat.reduceBEq, Nat.reduceAdd, Nat.reduceLeDiff, Nat.reduceSub, Int.reduceEq, h0, h3', h5, h6, h7, h8, hs, Fd_at hlt, Cl_at hjl, fdC, clC, bleF, hcl])
      refine CallE.of (c_l2cellOK fs[i] (colL xs R i)[j] hfd hcm) (by rintro r rfl; (repeat' first | exact trivial | exact pure_rowB _ | exact pure_rowO _ | exact pure_rowI _ | exact pure_rowBB _ | exact pure_rowPk _ _ | exact pure_rowSn _ _ | exact pure_rowFd _ _ | exact pure_rowCl _ _ | refine And.intro ?_ ?_)) (by simp -dsimp -implicitDefEqProofs only [go_sem, Nat.reduceBEq, Nat.reduceAdd, Nat.reduceLeDiff, Nat.reduceSub, Int.reduceEq, h0, h3', h5, h6, h7, h8, hs, fdC, clC]) ?_
      rintro r rfl
      simp -dsimp -implicitDefEqProofs only [go_sem, Nat.reduceBEq, Nat.reduceAdd, Nat.reduceLeDiff, Nat.reduceSub, Int.reduceEq, h0, h3', h5, h6, h7, h8, hs, fdC, clC]
      refine ifB'.of (fun hq => ?_) (fun hq => ?_)
      · simp -dsimp -implicitDefEqProofs only [go_sem, Nat.reduceBEq, Nat.reduceAdd, Nat.reduceLeDiff, Nat.reduceSub, Int.reduceEq, h0, h3', h5, h6, h7, h8, hs, Cl_at hjl, clC]
        repeat (first | with_reducible refine ask.of (by omega) ?_ | simp -dsimp -implicitDefEqProofs only [go_sem, Nat.reduceBEq, Nat.reduceAdd, Nat.reduceLeDiff, Nat.reduceSub, Int.reduceEq, h0, h3', h5, h6, h7, h8, hs, Fd_at hlt, Cl_at hjl, fdC, clC, bleF, hcl, e1])
        refine hK' _ (by omega) ?_
        simp -dsimp -implicitDefEqProofs only [go_sem, Nat.reduceBEq, Nat.reduceAdd, Nat.reduceLeDiff, Nat.reduceSub, Int.reduceEq, h0, h3', h5, h6, h7, h8, hs, wrap_succ (show j < 4611686018427387904 by omega), e1]
        exact all_take_succ hjl ha hq
      · simp -dsimp -implicitDefEqProofs only [go_sem, Nat.reduceBEq, Nat.reduceAdd, Nat.reduceLeDiff, Nat.reduceSub, Int.reduceEq, h0, h3', h5, h6, h7, h8, hs]
        refine tb_f (fun h => hq ((h.2.2.1 i hlt).1 _ ?_))
        rw [Int.toNat_natCast]; exact List.getElem_mem _
    · have : j = R := by omega
      subst this
      have hall : ∀ c ∈ colL xs j i, clOk fs[i] c := by
        rw [List.take_of_length_le (by omega)] at ha; exact ha
      have hsum : szL clW (xs.take (i * j)) + szL clW ((colL xs j i).take j) = szL clW (xs.take ((i + 1) * j)) := by
        rw [show (colL xs j i).take j = colL xs j i from List.take_of_length_le (by omega)]; exact hsz
      simp -dsimp -implicitDefEqProofs only [go_sem, Nat.reduceBEq, Nat.reduceAdd, Nat.reduceLeDiff, Nat.reduceSub, Int.reduceEq, h0, h3', h5, h6, h7, h8, hs, Fd_at hlt, fdC, hsum]
      repeat (first | with_reducible refine ask.of (by omega) ?_ | simp -dsimp -implicitDefEqProofs only [go_sem, Nat.reduceBEq, Nat.reduceAdd, Nat.reduceLeDiff, Nat.reduceSub, Int.reduceEq, h0, h3', h5, h6, h7, h8, hs, Fd_at hlt, fdC, bleF])
      refine ifB'.of (fun hk => ?_) (fun hk => ?_)
      · simp -dsimp -implicitDefEqProofs only [go_sem, Nat.reduceBEq, Nat.reduceAdd, Nat.reduceLeDiff, Nat.reduceSub, Int.reduceEq, h0, h3', h5, h6, h7, h8, hs]
        refine CallE.lend (c_l2texts (colL xs j i) 40 (by omega) (by omega) (fun c h => hxb c (colL_mem h))) (by simp -dsimp -implicitDefEqProofs only [go_sem, Nat.reduceBEq, Nat.reduceAdd, Nat.reduceLeDiff, Nat.reduceSub, Int.reduceEq, h0, h3', h5, h6, h7, h8, hs, show ((40 : Nat) : Int) = 40 from rfl]) ?_
        rintro r ⟨ys, rfl, hys⟩
        simp -dsimp -implicitDefEqProofs only [go_sem, Nat.reduceBEq, Nat.reduceAdd, Nat.reduceLeDiff, Nat.reduceSub, Int.reduceEq, h0, h3', h5, h6, h7, h8, hs]
        refine ifB'.of (fun hy => ?_) (fun hy => ?_)
        · simp -dsimp -implicitDefEqProofs only [go_sem, Nat.reduceBEq, Nat.reduceAdd, Nat.reduceLeDiff, Nat.reduceSub, Int.reduceEq, h0, h3', h5, h6, h7, h8, hs]
          refine tb_f (fun h => ?_)
          have h9 := (h.2.2.1 i hlt).2 hk
          rw [Int.toNat_natCast] at h9
          have := hys.1 (by omega)
          omega
        · simp -dsimp -implicitDefEqProofs only [go_sem, Nat.reduceBEq, Nat.reduceAdd, Nat.reduceLeDiff, Nat.reduceSub, Int.reduceEq, h0, h3', h5, h6, h7, h8, hs]
          refine hK _ hlt ?_
          simp -dsimp -implicitDefEqProofs only [go_sem, Nat.reduceBEq, Nat.reduceAdd, Nat.reduceLeDiff, Nat.reduceSub, Int.reduceEq, h0, h3', h5, h6, h7, h8, hs, wrap_succ (show i < 4611686018427387904 by omega), hsum]
          intro k hkf hki
          by_cases hke : k = i
          · subst hke
            refine ⟨hall, fun _ => ?_⟩
            have : ¬ 40 < (dst (colL xs j k)).length := fun h' => by have := hys.2 h'; omega
            omega
          · exact hc k hkf (by omega)
      · simp -dsimp -implicitDefEqProofs only [go_sem, Nat.reduceBEq, Nat.reduceAdd, Nat.reduceLeDiff, Nat.reduceSub, Int.reduceEq, h0, h3', h5, h6, h7, h8, hs]
        refine hK _ hlt ?_
        simp -dsimp -implicitDefEqProofs only [go_sem, Nat.reduceBEq, Nat.reduceAdd, Nat.reduceLeDiff, Nat.reduceSub, Int.reduceEq, h0, h3', h5, h6, h7, h8, hs, wrap_succ (show i < 4611686018427387904 by omega), hsum]
        intro k hkf hki
        by_cases hke : k = i
        · subst hke
          exact ⟨hall, fun h' => absurd h' hk⟩
        · exact hc k hkf (by omega)
  · have : i = fs.length := by omega
    subst this
    simp -dsimp -implicitDefEqProofs only [go_sem, Nat.reduceBEq, Nat.reduceAdd, Nat.reduceLeDiff, Nat.reduceSub, Int.reduceEq, h0, h3', h5, h6, hs]
    rw [← hlen, List.take_length]
    refine tb_d ⟨fun h => ⟨hF, ⟨by omega, by omega, by rw [hlen, Int.natCast_mul, Int.mul_comm]⟩, fun k hk => by rw [Int.toNat_natCast]; exact hc k hk hk, by omega⟩, fun h => by have := h.2.2.2; omega⟩
set_option maxRecDepth 4000 in
theorem c_iValidTable (fs : List Fd) (r : Int) (xs : List Cl) (hf : fs.length ≤ 1048576) (hfb : ∀ b ∈ fs, b.f.length ≤ 1048576) (hx : xs.length + szL clW xs ≤ 1048576) (hxi : ∀ c ∈ xs, i64r c.i) : Meets Try.prog 72 [rowFd 96 fs, .agg (tbC 160 ⟨r, xs⟩)] (fun v => v = .v (.bool (tbB fs r xs))) := by
  refine Meets.intro mixed (hint []) Try.func72 rfl (by decide) res_72 rty_72 (by kernel_rfl) ?_; 
  have hxb : ∀ c ∈ xs, c.f.length ≤ 1048576 := fun c hc => by have := mem_clW hc; omega
  simp -dsimp -implicitDefEqProofs only [go_sem, Nat.reduceBEq, Nat.reduceAdd, Nat.reduceLeDiff, Nat.reduceSub, Int.reduceEq, rowFd, tbC]
  refine CallE.of (c_iValidFields fs hf hfb) (by rintro r rfl; (repeat' first | exact trivial | exact pure_rowB _ | exact pure_rowO _ | exact pure_rowI _ | exact pure_rowBB _ | exact pure_rowPk _ _ | exact pure_rowSn _ _ | exact pure_rowFd _ _ | exact pure_rowCl _ _ | refine And.intro ?_ ?_)) (by simp -dsimp -implicitDefEqProofs only [go_sem, Nat.reduceBEq, Nat.reduceAdd, Nat.reduceLeDiff, Nat.reduceSub, Int.reduceEq, rowFd]) ?_
  rintro r rfl
  simp -dsimp -implicitDefEqProofs only [go_sem, Nat.reduceBEq, Nat.reduceAdd, Nat.reduceLeDiff, Nat.reduceSub, Int.reduceEq, rowFd]
  by_cases hF : okF fs
  case neg =>
    simp -dsimp -implicitDefEqProofs only [go_sem, Nat.reduceBEq, Nat.reduceAdd, Nat.reduceLeDiff, Nat.reduceSub, Int.reduceEq, decide_eq_false hF, Bool.not_false]
    exact tb_f (fun h => hF h.1)
  have hn := hF.1
  simp -dsimp -implicitDefEqProofs only [go_sem, Nat.reduceBEq, Nat.reduceAdd, Nat.reduceLeDiff, Nat.reduceSub, Int.reduceEq, decide_eq_true hF, Bool.not_true]
  repeat (first | with_reducible refine ask.of (by omega) ?_ | simp -dsimp -implicitDefEqProofs only [go_sem, Nat.reduceBEq, Nat.reduceAdd, Nat.reduceLeDiff, Nat.reduceSub, Int.reduceEq, Bool.not_true])
  refine ifB'.of (fun h1 => ?_) (fun h1 => ?_)
  · simp -dsimp -implicitDefEqProofs only [go_sem, Nat.reduceBEq, Nat.reduceAdd, Nat.reduceLeDiff, Nat.reduceSub, Int.reduceEq]
    exact tb_f (fun h => by have := h.2.1.1; omega)
  simp -dsimp -implicitDefEqProofs only [go_sem, Nat.reduceBEq, Nat.reduceAdd, Nat.reduceLeDiff, Nat.reduceSub, Int.reduceEq]
  repeat (first | with_reducible refine ask.of (by omega) ?_ | simp -dsimp -implicitDefEqProofs only [go_sem, Nat.reduceBEq, Nat.reduceAdd, Nat.reduceLeDiff, Nat.reduceSub, Int.reduceEq, Bool.not_true])
  refine ifB'.of (fun h2 => ?_) (fun h2 => ?_)
  · simp -dsimp -implicitDefEqProofs only [go_sem, Nat.reduceBEq, Nat.reduceAdd, Nat.reduceLeDiff, Nat.reduceSub, Int.reduceEq]
    exact tb_f (fun h => by have := h.2.1.2.1; omega)
  obtain ⟨R, rfl⟩ := Int.eq_ofNat_of_zero_le (show 0 ≤ r by omega)
  have hR : R ≤ 100 := by omega
  have hnR := tb_w (a := fs.length) hn.2 hR
  have hnR' : R * fs.length ≤ 1200 := by rw [Nat.mul_comm]; exact hnR
  simp -dsimp -implicitDefEqProofs only [go_sem, Nat.reduceBEq, Nat.reduceAdd, Nat.reduceLeDiff, Nat.reduceSub, Int.reduceEq, wrap_mul (show R * fs.length ≤ 9223372036854775807 by omega)]
  repeat (first | with_reducible refine ask.of (by omega) ?_ | simp -dsimp -implicitDefEqProofs only [go_sem, Nat.reduceBEq, Nat.reduceAdd, Nat.reduceLeDiff, Nat.reduceSub, Int.reduceEq, wrap_mul (show R * fs.length ≤ 9223372036854775807 by omega)])
  refine ifB'.of (fun h3 => ?_) (fun h3 => ?_)
  case refine_2 =>
    simp -dsimp -implicitDefEqProofs only [go_sem, Nat.reduceBEq, Nat.reduceAdd, Nat.reduceLeDiff, Nat.reduceSub, Int.reduceEq]
    refine tb_f (fun h => h3 ?_)
    have := h.2.1.2.2
    rw [this, Int.natCast_mul]
  have hlen : xs.length = fs.length * R := by rw [Nat.mul_comm]; omega
  simp -dsimp -implicitDefEqProofs only [go_sem, Nat.reduceBEq, Nat.reduceAdd, Nat.reduceLeDiff, Nat.reduceSub, Int.reduceEq]
  refine LoopE.cnt fs.length (fun i s => s.env 35 = .rd .ent 96 3 (ra fdC fs) ∧ s.env 36 = .v (.int .i64 fs.length) ∧ s.env 37 = .v (.int .i64 i) ∧ s.env 3 = .ptr [3] 0 0 0 ∧ s.env 5 = .v (.int .i64 (szL clW (xs.take (i * R)) : Nat)) ∧ s.σ [3] = some (.box 100 [.v (.int .i64 R), .rd .ent 160 3 (ra clC xs)]) ∧ ∀ k (h : k < fs.length), k < i → colOk fs[k] (colL xs R k)) ⟨by simp -dsimp -implicitDefEqProofs only [go_sem, Nat.reduceBEq, Nat.reduceAdd, Nat.reduceLeDiff, Nat.reduceSub, Int.reduceEq, initE, rowFd], by simp -dsimp -implicitDefEqProofs only [go_sem, Nat.reduceBEq, Nat.reduceAdd, Nat.reduceLeDiff, Nat.reduceSub, Int.reduceEq, initE, rowFd], by simp -dsimp -implicitDefEqProofs only [go_sem, Nat.reduceBEq, Nat.reduceAdd, Nat.reduceLeDiff, Nat.reduceSub, Int.reduceEq], by simp -dsimp -implicitDefEqProofs only [go_sem, Nat.reduceBEq, Nat.reduceAdd, Nat.reduceLeDiff, Nat.reduceSub, Int.reduceEq], by simp -dsimp -implicitDefEqProofs only [go_sem, Nat.reduceBEq, Nat.reduceAdd, Nat.reduceLeDiff, Nat.reduceSub, Int.reduceEq] <;> simp [szL], by simp -dsimp -implicitDefEqProofs only [go_sem, Nat.reduceBEq, Nat.reduceAdd, Nat.reduceLeDiff, Nat.reduceSub, Int.reduceEq], fun k _ h => absurd h (by omega)⟩ ?_
  rintro i ⟨e, σ⟩ hi ⟨h35, h36, h37, h3', h5, hs, hc⟩ K hK
  simp only at h35 h36 h37 h3' h5 hs
  simp -dsimp -implicitDefEqProofs only [go_sem, Nat.reduceBEq, Nat.reduceAdd, Nat.reduceLeDiff, Nat.reduceSub, Int.reduceEq, h35, h36, h37, h3', h5, hs]
  refine ifB'.of (fun hlt => ?_) (fun hlt => ?_)
  · have hlt : i < fs.length := by omega
    have hiR : (i + 1) * R ≤ xs.length := by rw [hlen]; exact Nat.mul_le_mul_right _ (by omega)
    have hsz := colL_sz (xs := xs) (R := R) (i := i)
    have hszl : szL clW (xs.take ((i + 1) * R)) ≤ szL clW xs := szL_take_le clW xs _
    have hcl := colL_length hiR
    have hfd : fdOk fs[i] := hF.2.1 _ (List.getElem_mem _)
    simp -dsimp -implicitDefEqProofs only [go_sem, Nat.reduceBEq, Nat.reduceAdd, Nat.reduceLeDiff, Nat.reduceSub, Int.reduceEq, h35, h36, h37, h3', h5, hs, Fd_at hlt, fdC]
    repeat (first | with_reducible refine ask.of (by omega) ?_ | simp -dsimp -implicitDefEqProofs only [go_sem, Nat.reduceBEq, Nat.reduceAdd, Nat.reduceLeDiff, Nat.reduceSub, Int.reduceEq, h35, h36, h37, h3', h5, hs, Fd_at hlt, fdC, bleF])
    refine CallE.lend (c_column xs R i hR (by omega) hiR) (by simp -dsimp -implicitDefEqProofs only [go_sem, Nat.reduceBEq, Nat.reduceAdd, Nat.reduceLeDiff, Nat.reduceSub, Int.reduceEq, h35, h36, h37, h3', h5, hs]) ?_
    rintro r rfl
    simp -dsimp -implicitDefEqProofs only [go_sem, Nat.reduceBEq, Nat.reduceAdd, Nat.reduceLeDiff, Nat.reduceSub, Int.reduceEq, h35, h36, h37, h3', h5, hs]
    refine LoopE.cnt R (fun j s => s.env 35 = .rd .ent 96 3 (ra fdC fs) ∧ s.env 36 = .v (.int .i64 fs.length) ∧ s.env 37 = .v (.int .i64 i) ∧ s.env 3 = .ptr [3] 0 0 0 ∧ s.env 7 = .ptr [7] 0 0 0 ∧ s.env 8 = .ref [42] ∧ s.env 5 = .v (.int .i64 (szL clW (xs.take (i * R)) + szL clW ((colL xs R i).take j) : Nat)) ∧ s.env 45 = .rd .ent 160 3 (ra clC (colL xs R i)) ∧ s.env 46 = .v (.int .i64 R) ∧ s.env 47 = .v (.int .i64 j) ∧ s.σ [3] = some (.box 100 [.v (.int .i64 R), .rd .ent 160 3 (ra clC xs)]) ∧ s.σ [7] = some (.box 96 [.rd .ent 5 1 (bytesA fs[i].f), .v (.int .i64 fs[i].k), .v (.int .i64 fs[i].w)]) ∧
      (∃ l, s.σ [42] = some (.mp .string 3 (mpI l)) ∧ l.map (·.1) = dst ((colL xs R i).take j)) ∧ ∀ c ∈ (colL xs R i).take j, clOk fs[i] c) ⟨by simp -dsimp -implicitDefEqProofs only [go_sem, Nat.reduceBEq, Nat.reduceAdd, Nat.reduceLeDiff, Nat.reduceSub, Int.reduceEq, h35, h36, h37, h3', h5, hs], by simp -dsimp -implicitDefEqProofs only [go_sem, Nat.reduceBEq, Nat.reduceAdd, Nat.reduceLeDiff, Nat.reduceSub, Int.reduceEq, h35, h36, h37, h3', h5, hs], by simp -dsimp -implicitDefEqProofs only [go_sem, Nat.reduceBEq, Nat.reduceAdd, Nat.reduceLeDiff, Nat.reduceSub, Int.reduceEq, h35, h36, h37, h3', h5, hs], by simp -dsimp -implicitDefEqProofs only [go_sem, Nat.reduceBEq, Nat.reduceAdd, Nat.reduceLeDiff, Nat.reduceSub, Int.reduceEq, h35, h36, h37, h3', h5, hs], by simp -dsimp -implicitDefEqProofs only [go_sem, Nat.reduceBEq, Nat.reduceAdd, Nat.reduceLeDiff, Nat.reduceSub, Int.reduceEq, h35, h36, h37, h3', h5, hs], by simp -dsimp -implicitDefEqProofs only [go_sem, Nat.reduceBEq, Nat.reduceAdd, Nat.reduceLeDiff, Nat.reduceSub, Int.reduceEq, h35, h36, h37, h3', h5, hs], by simp -dsimp -implicitDefEqProofs only [go_sem, Nat.reduceBEq, Nat.reduceAdd, Nat.reduceLeDiff, Nat.reduceSub, Int.reduceEq, h35, h36, h37, h3', h5, hs] <;> simp [szL], by simp -dsimp -implicitDefEqProofs only [go_sem, Nat.reduceBEq, Nat.reduceAdd, Nat.reduceLeDiff, Nat.reduceSub, Int.reduceEq, h35, h36, h37, h3', h5, hs], by simp -dsimp -implicitDefEqProofs only [go_sem, Nat.reduceBEq, Nat.reduceAdd, Nat.reduceLeDiff, Nat.reduceSub, Int.reduceEq, h35, h36, h37, h3', h5, hs, hcl], by simp -dsimp -implicitDefEqProofs only [go_sem, Nat.reduceBEq, Nat.reduceAdd, Nat.reduceLeDiff, Nat.reduceSub, Int.reduceEq, h35, h36, h37, h3', h5, hs], by simp -dsimp -implicitDefEqProofs only [go_sem, Nat.reduceBEq, Nat.reduceAdd, Nat.reduceLeDiff, Nat.reduceSub, Int.reduceEq, h35, h36, h37, h3', h5, hs], by simp -dsimp -implicitDefEqProofs only [go_sem, Nat.reduceBEq, Nat.reduceAdd, Nat.reduceLeDiff, Nat.reduceSub, Int.reduceEq, h35, h36, h37, h3', h5, hs], ⟨[], by simp -dsimp -implicitDefEqProofs only [go_sem, Nat.reduceBEq, Nat.reduceAdd, Nat.reduceLeDiff, Nat.reduceSub, Int.reduceEq, h35, h36, h37, h3', h5, hs] <;> rfl, by simp [dst]⟩, by simp⟩ ?_
    rintro j ⟨e, σ⟩ hj ⟨h35, h36, h37, h3', h7, h8, h5, h45, h46, h47, hs, hs7, ⟨l, hs42, hlk⟩, ha⟩ K' hK'
    simp only at h35 h36 h37 h3' h7 h8 h5 h45 h46 h47 hs hs7 hs42
    simp -dsimp -implicitDefEqProofs only [go_sem, Nat.reduceBEq, Nat.reduceAdd, Nat.reduceLeDiff, Nat.reduceSub, Int.reduceEq, h35, h36, h37, h3', h7, h8, h5, h45, h46, h47, hs, hs7, hs42]
    refine ifB'.of (fun hjl => ?_) (fun hjl => ?_)
    · have hjl : j < (colL xs R i).length := by omega
      have hcm : (colL xs R i)[j].f.length ≤ 1048576 := hxb _ (colL_mem (List.getElem_mem hjl))
      have hst := szL_take_succ clW hjl
      have hsl := szL_take_le clW (colL xs R i) (j + 1)
      have hcw : clW (colL xs R i)[j] = (colL xs R i)[j].f.length := rfl
      have e1 : IntKind.i64.wrap (((szL clW (xs.take (i * R)) + szL clW ((colL xs R i).take j) : Nat) : Int) + (colL xs R i)[j].f.length) = (szL clW (xs.take (i * R)) + szL clW ((colL xs R i).take (j + 1)) : Nat) := by rw [wrap_i64_of (by omega) (by omega)]; omega
      simp -dsimp -implicitDefEqProofs only [go_sem, Nat.reduceBEq, Nat.reduceAdd, Nat.reduceLeDiff, Nat.reduceSub, Int.reduceEq, h35, h36, h37, h3', h7, h8, h5, h45, h46, h47, hs, hs7, hs42, Cl_at hjl, clC]
      repeat (first | with_reducible refine ask.of (by omega) ?_ | simp -dsimp -implicitDefEqProofs only [go_sem, Nat.reduceBEq, Nat.reduceAdd, Nat.reduceLeDiff, Nat.reduceSub, Int.reduceEq, h35, h36, h37, h3', h7, h8, h5, h45, h46, h47, hs, hs7, hs42, Cl_at hjl, clC, bleF, hcl])
      refine CallE.of (c_cellOk fs[i] (colL xs R i)[j] hfd hcm (hxi _ (colL_mem (List.getElem_mem hjl)))) (by rintro r rfl; (repeat' first | exact trivial | exact pure_rowB _ | exact pure_rowO _ | exact pure_rowI _ | exact pure_rowBB _ | exact pure_rowPk _ _ | exact pure_rowSn _ _ | exact pure_rowFd _ _ | exact pure_rowCl _ _ | refine And.intro ?_ ?_)) (by simp -dsimp -implicitDefEqProofs only [go_sem, Nat.reduceBEq, Nat.reduceAdd, Nat.reduceLeDiff, Nat.reduceSub, Int.reduceEq, h35, h36, h37, h3', h7, h8, h5, h45, h46, h47, hs, hs7, hs42, fdC, clC]) ?_
      rintro r rfl
      simp -dsimp -implicitDefEqProofs only [go_sem, Nat.reduceBEq, Nat.reduceAdd, Nat.reduceLeDiff, Nat.reduceSub, Int.reduceEq, h35, h36, h37, h3', h7, h8, h5, h45, h46, h47, hs, hs7, hs42, fdC, clC]
      refine ifB'.of (fun hq => ?_) (fun hq => ?_)
      · simp -dsimp -implicitDefEqProofs only [go_sem, Nat.reduceBEq, Nat.reduceAdd, Nat.reduceLeDiff, Nat.reduceSub, Int.reduceEq, h35, h36, h37, h3', h7, h8, h5, h45, h46, h47, hs, hs7, hs42, Cl_at hjl, clC]
        repeat (first | with_reducible refine ask.of (by omega) ?_ | simp -dsimp -implicitDefEqProofs only [go_sem, Nat.reduceBEq, Nat.reduceAdd, Nat.reduceLeDiff, Nat.reduceSub, Int.reduceEq, h35, h36, h37, h3', h7, h8, h5, h45, h46, h47, hs, hs7, hs42, Cl_at hjl, clC, bleF, hcl, e1])
        cases hz : (colL xs R i)[j].z
        · simp -dsimp -implicitDefEqProofs only [go_sem, Nat.reduceBEq, Nat.reduceAdd, Nat.reduceLeDiff, Nat.reduceSub, Int.reduceEq, h35, h36, h37, h3', h7, h8, h5, h45, h46, h47, hs, hs7, hs42, hz, Bool.not_false]
          repeat (first | with_reducible refine ask.of (by omega) ?_ | simp -dsimp -implicitDefEqProofs only [go_sem, Nat.reduceBEq, Nat.reduceAdd, Nat.reduceLeDiff, Nat.reduceSub, Int.reduceEq, h35, h36, h37, h3', h7, h8, h5, h45, h46, h47, hs, hs7, hs42, Cl_at hjl, clC, bleF, hcl, e1, mgetI, mputI])
          refine hK' _ (by omega) ?_
          simp -dsimp -implicitDefEqProofs only [go_sem, Nat.reduceBEq, Nat.reduceAdd, Nat.reduceLeDiff, Nat.reduceSub, Int.reduceEq, h35, h36, h37, h3', h7, h8, h5, h45, h46, h47, hs, hs7, hs42, wrap_succ (show j < 4611686018427387904 by omega), e1]
          refine ⟨⟨_, rfl, ?_⟩, all_take_succ hjl ha hq⟩
          rw [dst_succ hjl]
          exact putI_dst hlk hz _
        · have hno : dstep (dst ((colL xs R i).take j)) (colL xs R i)[j] = dst ((colL xs R i).take j) := dstep_no (fun h => by rw [hz] at h; cases h.1)
          simp -dsimp -implicitDefEqProofs only [go_sem, Nat.reduceBEq, Nat.reduceAdd, Nat.reduceLeDiff, Nat.reduceSub, Int.reduceEq, h35, h36, h37, h3', h7, h8, h5, h45, h46, h47, hs, hs7, hs42, hz, Bool.not_true]
          refine hK' _ (by omega) ?_
          simp -dsimp -implicitDefEqProofs only [go_sem, Nat.reduceBEq, Nat.reduceAdd, Nat.reduceLeDiff, Nat.reduceSub, Int.reduceEq, h35, h36, h37, h3', h7, h8, h5, h45, h46, h47, hs, hs7, hs42, wrap_succ (show j < 4611686018427387904 by omega), e1]
          exact ⟨⟨_, rfl, by rw [dst_succ hjl, hno]; exact hlk⟩, all_take_succ hjl ha hq⟩
      · simp -dsimp -implicitDefEqProofs only [go_sem, Nat.reduceBEq, Nat.reduceAdd, Nat.reduceLeDiff, Nat.reduceSub, Int.reduceEq, h35, h36, h37, h3', h7, h8, h5, h45, h46, h47, hs, hs7, hs42]
        refine tb_f (fun h => hq ((h.2.2.1 i hlt).1 _ ?_))
        rw [Int.toNat_natCast]; exact List.getElem_mem _
    · have : j = R := by omega
      subst this
      have htk : (colL xs j i).take j = colL xs j i := List.take_of_length_le (by omega)
      have hall : ∀ c ∈ colL xs j i, clOk fs[i] c := by rw [htk] at ha; exact ha
      have hsum : szL clW (xs.take (i * j)) + szL clW ((colL xs j i).take j) = szL clW (xs.take ((i + 1) * j)) := by rw [htk]; exact hsz
      have hll : l.length = (dst (colL xs j i)).length := by rw [← htk, ← hlk]; simp
      simp -dsimp -implicitDefEqProofs only [go_sem, Nat.reduceBEq, Nat.reduceAdd, Nat.reduceLeDiff, Nat.reduceSub, Int.reduceEq, h35, h36, h37, h3', h7, h8, h5, h45, h46, h47, hs, hs7, hs42, hsum]
      repeat (first | with_reducible refine ask.of (by omega) ?_ | simp -dsimp -implicitDefEqProofs only [go_sem, Nat.reduceBEq, Nat.reduceAdd, Nat.reduceLeDiff, Nat.reduceSub, Int.reduceEq, h35, h36, h37, h3', h7, h8, h5, h45, h46, h47, hs, hs7, hs42, bleF])
      refine ifB'.of (fun hk => ?_) (fun hk => ?_)
      · simp -dsimp -implicitDefEqProofs only [go_sem, Nat.reduceBEq, Nat.reduceAdd, Nat.reduceLeDiff, Nat.reduceSub, Int.reduceEq, h35, h36, h37, h3', h7, h8, h5, h45, h46, h47, hs, hs7, hs42, mpI_length]
        refine ifB'.of (fun hy => ?_) (fun hy => ?_)
        · simp -dsimp -implicitDefEqProofs only [go_sem, Nat.reduceBEq, Nat.reduceAdd, Nat.reduceLeDiff, Nat.reduceSub, Int.reduceEq, h35, h36, h37, h3', h7, h8, h5, h45, h46, h47, hs, hs7, hs42]
          refine tb_f (fun h => ?_)
          have h9 := (h.2.2.1 i hlt).2 hk
          rw [Int.toNat_natCast] at h9
          omega
        · simp -dsimp -implicitDefEqProofs only [go_sem, Nat.reduceBEq, Nat.reduceAdd, Nat.reduceLeDiff, Nat.reduceSub, Int.reduceEq, h35, h36, h37, h3', h7, h8, h5, h45, h46, h47, hs, hs7, hs42]
          refine hK _ hlt ?_
          simp -dsimp -implicitDefEqProofs only [go_sem, Nat.reduceBEq, Nat.reduceAdd, Nat.reduceLeDiff, Nat.reduceSub, Int.reduceEq, h35, h36, h37, h3', h7, h8, h5, h45, h46, h47, hs, hs7, hs42, wrap_succ (show i < 4611686018427387904 by omega), hsum]
          intro k hkf hki
          by_cases hke : k = i
          · subst hke
            exact ⟨hall, fun _ => by omega⟩
          · exact hc k hkf (by omega)
      · simp -dsimp -implicitDefEqProofs only [go_sem, Nat.reduceBEq, Nat.reduceAdd, Nat.reduceLeDiff, Nat.reduceSub, Int.reduceEq, h35, h36, h37, h3', h7, h8, h5, h45, h46, h47, hs, hs7, hs42]
        refine hK _ hlt ?_
        simp -dsimp -implicitDefEqProofs only [go_sem, Nat.reduceBEq, Nat.reduceAdd, Nat.reduceLeDiff, Nat.reduceSub, Int.reduceEq, h35, h36, h37, h3', h7, h8, h5, h45, h46, h47, hs, hs7, hs42, wrap_succ (show i < 4611686018427387904 by omega), hsum]
        intro k hkf hki
        by_cases hke : k = i
        · subst hke
          exact ⟨hall, fun h' => absurd h' hk⟩
        · exact hc k hkf (by omega)
  · have : i = fs.length := by omega
    subst this
    simp -dsimp -implicitDefEqProofs only [go_sem, Nat.reduceBEq, Nat.reduceAdd, Nat.reduceLeDiff, Nat.reduceSub, Int.reduceEq, h35, h36, h37, h3', h5, hs]
    rw [← hlen, List.take_length]
    refine tb_d ⟨fun h => ⟨hF, ⟨by omega, by omega, by rw [hlen, Int.natCast_mul, Int.mul_comm]⟩, fun k hk => by rw [Int.toNat_natCast]; exact hc k hk hk, by omega⟩, fun h => by have := h.2.2.2; omega⟩
end Go.Ev
