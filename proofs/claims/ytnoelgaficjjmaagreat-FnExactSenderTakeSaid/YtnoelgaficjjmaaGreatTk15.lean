/- Part 15 of what the row leans on: the evaluator, words, contracts of functions; pruned by a program of ours. -/
import Derived.Test.YtnoelgaficjjmaaGreatTk14
set_option linter.unusedSimpArgs false
set_option linter.unusedVariables false
namespace Go.Ev
open Go Go.RowKit Go.Proofs
def mpI (l : List (List UInt8 × Int)) : List (Value × Value) := mpS (l.map fun p => (p.1, .int .i64 p.2))
theorem mpI_length (l : List (List UInt8 × Int)) : (mpI l).length = l.length := by simp [mpI, mpS]
def getI : List (List UInt8 × Int) → List UInt8 → Int
  | [], _ => 0
  | p :: l, t => if p.1 = t then p.2 else getI l t
def putI : List (List UInt8 × Int) → List UInt8 → Int → List (List UInt8 × Int)
  | [], t, n => [(t, n)]
  | p :: l, t, n => if p.1 = t then (t, n) :: l else p :: putI l t n
theorem mgetI (t : List UInt8) : ∀ l : List (List UInt8 × Int), (mget (mpI l) (.string ⟨t.toArray⟩)).getD (.int .i64 0) = .int .i64 (getI l t)
  | [] => rfl
  | p :: l => by
    show (sel (kEq (.string ⟨p.1.toArray⟩) (.string ⟨t.toArray⟩)) (some (Value.int .i64 p.2)) (mget (mpI l) _)).getD (.int .i64 0) = _
    rw [kEq_str, getI]
    by_cases h : p.1 = t
    · rw [decide_eq_true h, if_pos h]; rfl
    · rw [decide_eq_false h, if_neg h]; exact mgetI t l
theorem mputI (t : List UInt8) (n : Int) : ∀ l : List (List UInt8 × Int), mput (mpI l) (.string ⟨t.toArray⟩) (.int .i64 n) = mpI (putI l t n)
  | [] => rfl
  | p :: l => by
    show sel (kEq (.string ⟨p.1.toArray⟩) (.string ⟨t.toArray⟩)) ((.string ⟨t.toArray⟩, .int .i64 n) :: mpI l) ((.string ⟨p.1.toArray⟩, .int .i64 p.2) :: mput (mpI l) _ _) = _
    rw [kEq_str, putI]
    by_cases h : p.1 = t
    · rw [decide_eq_true h, if_pos h]; rfl
    · rw [decide_eq_false h, if_neg h, mputI t n l]; rfl
theorem putI_keys (t : List UInt8) (n : Int) : ∀ l : List (List UInt8 × Int), (putI l t n).map (·.1) = if t ∈ l.map (·.1) then l.map (·.1) else l.map (·.1) ++ [t]
  | [] => rfl
  | p :: l => by
    rw [putI]
    by_cases h : p.1 = t
    · rw [if_pos h, if_pos (by simp [h])]; simp [h]
    · have ih := putI_keys t n l
      rw [if_neg h, List.map_cons, ih]
      by_cases h2 : t ∈ l.map (·.1)
      · rw [if_pos h2, if_pos (by simp only [List.map_cons, List.mem_cons]; exact .inr h2)]; rfl
      · rw [if_neg h2, if_neg (by simp only [List.map_cons, List.mem_cons]; rintro (h3 | h3); exact h h3.symm; exact h2 h3)]; rfl
theorem putI_dst {l : List (List UInt8 × Int)} {acc : List (List UInt8)} {c : Cl} (h : l.map (·.1) = acc) (hz : c.z = false) (n : Int) : (putI l c.f n).map (·.1) = dstep acc c := by
  rw [putI_keys, h]
  unfold dstep
  by_cases h2 : c.f ∈ acc
  · rw [if_pos h2, if_neg (by simp [h2])]
  · rw [if_neg h2, if_pos ⟨hz, h2⟩]
def colOk (f : Fd) (xs : List Cl) : Prop := (∀ c ∈ xs, clOk f c) ∧ (f.k = 3 → (dst xs).length ≤ 40)
def okT (fs : List Fd) (r : Int) (xs : List Cl) : Prop := okF fs ∧ (0 ≤ r ∧ r ≤ 100 ∧ (xs.length : Int) = r * fs.length) ∧ (∀ i (h : i < fs.length), colOk fs[i] (colL xs r.toNat i)) ∧ szL clW xs ≤ 4000
noncomputable def tbB (fs : List Fd) (r : Int) (xs : List Cl) : Bool := @decide (okT fs r xs) (Classical.propDecidable _)
theorem tb_f {fs : List Fd} {r : Int} {xs : List Cl} (h : ¬ okT fs r xs) : false = tbB fs r xs := (@decide_eq_false _ (Classical.propDecidable _) h).symm
theorem tb_t {fs : List Fd} {r : Int} {xs : List Cl} (h : okT fs r xs) : true = tbB fs r xs := (@decide_eq_true _ (Classical.propDecidable _) h).symm
theorem tb_d {fs : List Fd} {r : Int} {xs : List Cl} {q : Prop} [hd : Decidable q] (h : q ↔ okT fs r xs) : decide q = tbB fs r xs := by
  by_cases hq : q
  · rw [decide_eq_true hq]; exact tb_t (h.1 hq)
  · rw [decide_eq_false hq]; exact tb_f (fun h' => hq (h.2 h'))
theorem tb_w {a : Nat} {R : Nat} (h : a ≤ 12) (hR : R ≤ 100) : a * R ≤ 1200 := Nat.le_trans (Nat.mul_le_mul h hR) (by decide)
set_option maxRecDepth 4000 in
theorem c_sValidTable (fs : List Fd) (r : Int) (xs : List Cl) (hf : fs.length ≤ 1048576) (hfb : ∀ b ∈ fs, b.f.length ≤ 1048576) (hx : xs.length + szL clW xs ≤ 1048576) : Meets Tryz.prog 106 [rowFd 101 fs, .agg (tbC 149 ⟨r, xs⟩)] (fun v => v = .v (.bool (tbB fs r xs))) := by
  refine Meets.intro mixed (hint []) Tryz.func106 rfl (by decide) res_106 rty_106 (by kernel_rfl) ?_; 
  have hxb : ∀ c ∈ xs, c.f.length ≤ 1048576 := fun c hc => by have := mem_clW hc; omega
  simp -dsimp -implicitDefEqProofs only [go_sem, rowFd, tbC]
  refine CallE.of (c_sValidFields fs hf hfb) (by rintro r rfl; (repeat' first | exact trivial | exact pure_rowB _ | exact pure_rowO _ | exact pure_rowI _ | exact pure_rowBB _ | exact pure_rowPk _ _ | exact pure_rowSn _ _ | exact pure_rowFd _ _ | exact pure_rowBBB _ | exact pure_rowCl _ _ | exact pure_rowTb _ _ _ | refine And.intro ?_ ?_)) (by simp -dsimp -implicitDefEqProofs only [go_sem, rowFd]) ?_
  rintro r rfl
  simp -dsimp -implicitDefEqProofs only [go_sem, rowFd]
  by_cases hF : okF fs
  case neg =>
    simp -dsimp -implicitDefEqProofs only [go_sem, decide_eq_false hF, Bool.not_false]
    exact tb_f (fun h => hF h.1)
  have hn := hF.1
  simp -dsimp -implicitDefEqProofs only [go_sem, decide_eq_true hF, Bool.not_true]
  repeat (first | with_reducible refine ask.of (by omega) ?_ | simp -dsimp -implicitDefEqProofs only [go_sem, Bool.not_true])
  refine ifB'.of (fun h1 => ?_) (fun h1 => ?_)
  · simp -dsimp -implicitDefEqProofs only [go_sem]
    exact tb_f (fun h => by have := h.2.1.1; omega)
  simp -dsimp -implicitDefEqProofs only [go_sem]
  repeat (first | with_reducible refine ask.of (by omega) ?_ | simp -dsimp -implicitDefEqProofs only [go_sem, Bool.not_true])
  refine ifB'.of (fun h2 => ?_) (fun h2 => ?_)
  · simp -dsimp -implicitDefEqProofs only [go_sem]
    exact tb_f (fun h => by have := h.2.1.2.1; omega)
  obtain ⟨R, rfl⟩ := Int.eq_ofNat_of_zero_le (show 0 ≤ r by omega)
  have hR : R ≤ 100 := by omega
  have hnR := tb_w (a := fs.length) hn.2 hR
  simp -dsimp -implicitDefEqProofs only [go_sem, wrap_mul (show fs.length * R ≤ 9223372036854775807 by omega)]
  repeat (first | with_reducible refine ask.of (by omega) ?_ | simp -dsimp -implicitDefEqProofs only [go_sem, wrap_mul (show fs.length * R ≤ 9223372036854775807 by omega)])
  refine ifB'.of (fun h3 => ?_) (fun h3 => ?_)
  case refine_2 =>
    simp -dsimp -implicitDefEqProofs only [go_sem]
    refine tb_f (fun h => h3 ?_)
    have := h.2.1.2.2
    rw [this, Int.natCast_mul, Int.mul_comm]
  have hlen : xs.length = fs.length * R := by omega
  simp -dsimp -implicitDefEqProofs only [go_sem]
  refine LoopE.cnt fs.length (fun i s => s.env 0 = .rd .ent 101 3 (ra fdC fs) ∧ s.env 3 = .ptr [3] 0 0 0 ∧ s.env 5 = .v (.int .i64 (szL clW (xs.take (i * R)) : Nat)) ∧ s.env 6 = .v (.int .i64 i) ∧ s.σ [3] = some (.box 105 [.v (.int .i64 R), .rd .ent 149 3 (ra clC xs)]) ∧ ∀ k (h : k < fs.length), k < i → colOk fs[k] (colL xs R k)) ⟨by simp -dsimp -implicitDefEqProofs only [go_sem, initE, rowFd], by simp -dsimp -implicitDefEqProofs only [go_sem], by simp -dsimp -implicitDefEqProofs only [go_sem] <;> simp [szL], by simp -dsimp -implicitDefEqProofs only [go_sem], by simp -dsimp -implicitDefEqProofs only [go_sem], fun k _ h => absurd h (by omega)⟩ ?_
  rintro i ⟨e, σ⟩ hi ⟨h0, h3', h5, h6, hs, hc⟩ K hK
  simp only at h0 h3' h5 h6 hs
  simp -dsimp -implicitDefEqProofs only [go_sem, h0, h3', h5, h6, hs]
  refine ifB'.of (fun hlt => ?_) (fun hlt => ?_)
  · have hlt : i < fs.length := by omega
    have hiR : (i + 1) * R ≤ xs.length := by rw [hlen]; exact Nat.mul_le_mul_right _ (by omega)
    have hsz := colL_sz (xs := xs) (R := R) (i := i)
    have hszl : szL clW (xs.take ((i + 1) * R)) ≤ szL clW xs := szL_take_le clW xs _
    have hcl := colL_length hiR
    have hfd : fdOk fs[i] := hF.2.1 _ (List.getElem_mem _)
    simp -dsimp -implicitDefEqProofs only [go_sem, h0, h3', h5, h6, hs]
    repeat (first | with_reducible refine ask.of (by omega) ?_ | simp -dsimp -implicitDefEqProofs only [go_sem, h0, h3', h5, h6, hs, bleF])
    refine CallE.lend (c_l2column xs R i hR (by omega) hiR) (by simp -dsimp -implicitDefEqProofs only [go_sem, h0, h3', h5, h6, hs]) ?_
    rintro r rfl
    simp -dsimp -implicitDefEqProofs only [go_sem, h0, h3', h5, h6, hs]
    refine LoopE.cnt R (fun j s => s.env 0 = .rd .ent 101 3 (ra fdC fs) ∧ s.env 3 = .ptr [3] 0 0 0 ∧ s.env 5 = .v (.int .i64 (szL clW (xs.take (i * R)) + szL clW ((colL xs R i).take j) : Nat)) ∧ s.env 6 = .v (.int .i64 i) ∧ s.env 7 = .rd .ent 149 3 (ra clC (colL xs R i)) ∧ s.env 8 = .v (.int .i64 j) ∧ s.σ [3] = some (.box 105 [.v (.int .i64 R), .rd .ent 149 3 (ra clC xs)]) ∧ ∀ c ∈ (colL xs R i).take j, clOk fs[i] c) ⟨by simp -dsimp -implicitDefEqProofs only [go_sem, h0, h3', h5, h6, hs], by simp -dsimp -implicitDefEqProofs only [go_sem, h0, h3', h5, h6, hs], by simp -dsimp -implicitDefEqProofs only [go_sem, h0, h3', h5, h6, hs] <;> simp [szL], by simp -dsimp -implicitDefEqProofs only [go_sem, h0, h3', h5, h6, hs], by simp -dsimp -implicitDefEqProofs only [go_sem, h0, h3', h5, h6, hs], by simp -dsimp -implicitDefEqProofs only [go_sem, h0, h3', h5, h6, hs], by simp -dsimp -implicitDefEqProofs only [go_sem, h0, h3', h5, h6, hs], by simp⟩ ?_
    rintro j ⟨e, σ⟩ hj ⟨h0, h3', h5, h6, h7, h8, hs, ha⟩ K' hK'
    simp only at h0 h3' h5 h6 h7 h8 hs
    simp -dsimp -implicitDefEqProofs only [go_sem, h0, h3', h5, h6, h7, h8, hs, hcl]
    refine ifB'.of (fun hjl => ?_) (fun hjl => ?_)
    · have hjl : j < (colL xs R i).length := by omega
      have hcm : (colL xs R i)[j].f.length ≤ 1048576 := hxb _ (colL_mem (List.getElem_mem hjl))
      have hst := szL_take_succ clW hjl
      have hsl := szL_take_le clW (colL xs R i) (j + 1)
      have hcw : clW (colL xs R i)[j] = (colL xs R i)[j].f.length := rfl
      have e1 : IntKind.i64.wrap (((szL clW (xs.take (i * R)) + szL clW ((colL xs R i).take j) : Nat) : Int) + (colL xs R i)[j].f.length) = (szL clW (xs.take (i * R)) + szL clW ((colL xs R i).take (j + 1)) : Nat) := by rw [wrap_i64_of (by omega) (by omega)]; omega
      simp -dsimp -implicitDefEqProofs only [go_sem, h0, h3', h5, h6, h7, h8, hs, Fd_at hlt, Cl_at hjl, fdC, clC]
      repeat (first | with_reducible refine ask.of (by omega) ?_ | simp -dsimp -implicitDefEqProofs only [go_sem, h0, h3', h5, h6, h7, h8, hs, Fd_at hlt, Cl_at hjl, fdC, clC, bleF, hcl])
      refine CallE.of (c_l2cellOK fs[i] (colL xs R i)[j] hfd hcm) (by rintro r rfl; (repeat' first | exact trivial | exact pure_rowB _ | exact pure_rowO _ | exact pure_rowI _ | exact pure_rowBB _ | exact pure_rowPk _ _ | exact pure_rowSn _ _ | exact pure_rowFd _ _ | exact pure_rowBBB _ | exact pure_rowCl _ _ | exact pure_rowTb _ _ _ | refine And.intro ?_ ?_)) (by simp -dsimp -implicitDefEqProofs only [go_sem, h0, h3', h5, h6, h7, h8, hs, fdC, clC]) ?_
      rintro r rfl
      simp -dsimp -implicitDefEqProofs only [go_sem, h0, h3', h5, h6, h7, h8, hs, fdC, clC]
      refine ifB'.of (fun hq => ?_) (fun hq => ?_)
      · simp -dsimp -implicitDefEqProofs only [go_sem, h0, h3', h5, h6, h7, h8, hs, Cl_at hjl, clC]
        repeat (first | with_reducible refine ask.of (by omega) ?_ | simp -dsimp -implicitDefEqProofs only [go_sem, h0, h3', h5, h6, h7, h8, hs, Fd_at hlt, Cl_at hjl, fdC, clC, bleF, hcl, e1])
        refine hK' _ (by omega) ?_
        simp -dsimp -implicitDefEqProofs only [go_sem, h0, h3', h5, h6, h7, h8, hs, wrap_succ (show j < 4611686018427387904 by omega), e1]
        exact all_take_succ hjl ha hq
      · simp -dsimp -implicitDefEqProofs only [go_sem, h0, h3', h5, h6, h7, h8, hs]
        refine tb_f (fun h => hq ((h.2.2.1 i hlt).1 _ ?_))
        rw [Int.toNat_natCast]; exact List.getElem_mem _
    · have : j = R := by omega
      subst this
      have hall : ∀ c ∈ colL xs j i, clOk fs[i] c := by
        rw [List.take_of_length_le (by omega)] at ha; exact ha
      have hsum : szL clW (xs.take (i * j)) + szL clW ((colL xs j i).take j) = szL clW (xs.take ((i + 1) * j)) := by
        rw [show (colL xs j i).take j = colL xs j i from List.take_of_length_le (by omega)]; exact hsz
      simp -dsimp -implicitDefEqProofs only [go_sem, h0, h3', h5, h6, h7, h8, hs, Fd_at hlt, fdC, hsum]
      repeat (first | with_reducible refine ask.of (by omega) ?_ | simp -dsimp -implicitDefEqProofs only [go_sem, h0, h3', h5, h6, h7, h8, hs, Fd_at hlt, fdC, bleF])
      refine ifB'.of (fun hk => ?_) (fun hk => ?_)
      · simp -dsimp -implicitDefEqProofs only [go_sem, h0, h3', h5, h6, h7, h8, hs]
        refine CallE.lend (c_l2texts (colL xs j i) 40 (by omega) (by omega) (fun c h => hxb c (colL_mem h))) (by simp -dsimp -implicitDefEqProofs only [go_sem, h0, h3', h5, h6, h7, h8, hs, show ((40 : Nat) : Int) = 40 from rfl]) ?_
        rintro r ⟨ys, rfl, hys⟩
        simp -dsimp -implicitDefEqProofs only [go_sem, h0, h3', h5, h6, h7, h8, hs]
        refine ifB'.of (fun hy => ?_) (fun hy => ?_)
        · simp -dsimp -implicitDefEqProofs only [go_sem, h0, h3', h5, h6, h7, h8, hs]
          refine tb_f (fun h => ?_)
          have h9 := (h.2.2.1 i hlt).2 hk
          rw [Int.toNat_natCast] at h9
          have := hys.1 (by omega)
          omega
        · simp -dsimp -implicitDefEqProofs only [go_sem, h0, h3', h5, h6, h7, h8, hs]
          refine hK _ hlt ?_
          simp -dsimp -implicitDefEqProofs only [go_sem, h0, h3', h5, h6, h7, h8, hs, wrap_succ (show i < 4611686018427387904 by omega), hsum]
          intro k hkf hki
          by_cases hke : k = i
          · subst hke
            refine ⟨hall, fun _ => ?_⟩
            have : ¬ 40 < (dst (colL xs j k)).length := fun h' => by have := hys.2 h'; omega
            omega
          · exact hc k hkf (by omega)
      · simp -dsimp -implicitDefEqProofs only [go_sem, h0, h3', h5, h6, h7, h8, hs]
        refine hK _ hlt ?_
        simp -dsimp -implicitDefEqProofs only [go_sem, h0, h3', h5, h6, h7, h8, hs, wrap_succ (show i < 4611686018427387904 by omega), hsum]
        intro k hkf hki
        by_cases hke : k = i
        · subst hke
          exact ⟨hall, fun h' => absurd h' hk⟩
        · exact hc k hkf (by omega)
  · have : i = fs.length := by omega
    subst this
    simp -dsimp -implicitDefEqProofs only [go_sem, h0, h3', h5, h6, hs]
    rw [← hlen, List.take_length]
    refine tb_d ⟨fun h => ⟨hF, ⟨by omega, by omega, by rw [hlen, Int.natCast_mul, Int.mul_comm]⟩, fun k hk => by rw [Int.toNat_natCast]; exact hc k hk hk, by omega⟩, fun h => by have := h.2.2.2; omega⟩
set_option maxRecDepth 4000 in
theorem c_iValidTable (fs : List Fd) (r : Int) (xs : List Cl) (hf : fs.length ≤ 1048576) (hfb : ∀ b ∈ fs, b.f.length ≤ 1048576) (hx : xs.length + szL clW xs ≤ 1048576) (hxi : ∀ c ∈ xs, i64r c.i) : Meets Tryz.prog 70 [rowFd 101 fs, .agg (tbC 149 ⟨r, xs⟩)] (fun v => v = .v (.bool (tbB fs r xs))) := by
  refine Meets.intro mixed (hint []) Tryz.func70 rfl (by decide) res_70 rty_70 (by kernel_rfl) ?_; 
  have hxb : ∀ c ∈ xs, c.f.length ≤ 1048576 := fun c hc => by have := mem_clW hc; omega
  simp -dsimp -implicitDefEqProofs only [go_sem, rowFd, tbC]
  refine CallE.of (c_iValidFields fs hf hfb) (by rintro r rfl; (repeat' first | exact trivial | exact pure_rowB _ | exact pure_rowO _ | exact pure_rowI _ | exact pure_rowBB _ | exact pure_rowPk _ _ | exact pure_rowSn _ _ | exact pure_rowFd _ _ | exact pure_rowBBB _ | exact pure_rowCl _ _ | exact pure_rowTb _ _ _ | refine And.intro ?_ ?_)) (by simp -dsimp -implicitDefEqProofs only [go_sem, rowFd]) ?_
  rintro r rfl
  simp -dsimp -implicitDefEqProofs only [go_sem, rowFd]
  by_cases hF : okF fs
  case neg =>
    simp -dsimp -implicitDefEqProofs only [go_sem, decide_eq_false hF, Bool.not_false]
    exact tb_f (fun h => hF h.1)
  have hn := hF.1
  simp -dsimp -implicitDefEqProofs only [go_sem, decide_eq_true hF, Bool.not_true]
  repeat (first | with_reducible refine ask.of (by omega) ?_ | simp -dsimp -implicitDefEqProofs only [go_sem, Bool.not_true])
  refine ifB'.of (fun h1 => ?_) (fun h1 => ?_)
  · simp -dsimp -implicitDefEqProofs only [go_sem]
    exact tb_f (fun h => by have := h.2.1.1; omega)
  simp -dsimp -implicitDefEqProofs only [go_sem]
  repeat (first | with_reducible refine ask.of (by omega) ?_ | simp -dsimp -implicitDefEqProofs only [go_sem, Bool.not_true])
  refine ifB'.of (fun h2 => ?_) (fun h2 => ?_)
  · simp -dsimp -implicitDefEqProofs only [go_sem]
    exact tb_f (fun h => by have := h.2.1.2.1; omega)
  obtain ⟨R, rfl⟩ := Int.eq_ofNat_of_zero_le (show 0 ≤ r by omega)
  have hR : R ≤ 100 := by omega
  have hnR := tb_w (a := fs.length) hn.2 hR
  have hnR' : R * fs.length ≤ 1200 := by rw [Nat.mul_comm]; exact hnR
  simp -dsimp -implicitDefEqProofs only [go_sem, wrap_mul (show R * fs.length ≤ 9223372036854775807 by omega)]
  repeat (first | with_reducible refine ask.of (by omega) ?_ | simp -dsimp -implicitDefEqProofs only [go_sem, wrap_mul (show R * fs.length ≤ 9223372036854775807 by omega)])
  refine ifB'.of (fun h3 => ?_) (fun h3 => ?_)
  case refine_2 =>
    simp -dsimp -implicitDefEqProofs only [go_sem]
    refine tb_f (fun h => h3 ?_)
    have := h.2.1.2.2
    rw [this, Int.natCast_mul]
  have hlen : xs.length = fs.length * R := by rw [Nat.mul_comm]; omega
  simp -dsimp -implicitDefEqProofs only [go_sem]
  refine LoopE.cnt fs.length (fun i s => s.env 35 = .rd .ent 101 3 (ra fdC fs) ∧ s.env 36 = .v (.int .i64 fs.length) ∧ s.env 37 = .v (.int .i64 i) ∧ s.env 3 = .ptr [3] 0 0 0 ∧ s.env 5 = .v (.int .i64 (szL clW (xs.take (i * R)) : Nat)) ∧ s.σ [3] = some (.box 105 [.v (.int .i64 R), .rd .ent 149 3 (ra clC xs)]) ∧ ∀ k (h : k < fs.length), k < i → colOk fs[k] (colL xs R k)) ⟨by simp -dsimp -implicitDefEqProofs only [go_sem, initE, rowFd], by simp -dsimp -implicitDefEqProofs only [go_sem, initE, rowFd], by simp -dsimp -implicitDefEqProofs only [go_sem], by simp -dsimp -implicitDefEqProofs only [go_sem], by simp -dsimp -implicitDefEqProofs only [go_sem] <;> simp [szL], by simp -dsimp -implicitDefEqProofs only [go_sem], fun k _ h => absurd h (by omega)⟩ ?_
  rintro i ⟨e, σ⟩ hi ⟨h35, h36, h37, h3', h5, hs, hc⟩ K hK
  simp only at h35 h36 h37 h3' h5 hs
  simp -dsimp -implicitDefEqProofs only [go_sem, h35, h36, h37, h3', h5, hs]
  refine ifB'.of (fun hlt => ?_) (fun hlt => ?_)
  · have hlt : i < fs.length := by omega
    have hiR : (i + 1) * R ≤ xs.length := by rw [hlen]; exact Nat.mul_le_mul_right _ (by omega)
    have hsz := colL_sz (xs := xs) (R := R) (i := i)
    have hszl : szL clW (xs.take ((i + 1) * R)) ≤ szL clW xs := szL_take_le clW xs _
    have hcl := colL_length hiR
    have hfd : fdOk fs[i] := hF.2.1 _ (List.getElem_mem _)
    simp -dsimp -implicitDefEqProofs only [go_sem, h35, h36, h37, h3', h5, hs, Fd_at hlt, fdC]
    repeat (first | with_reducible refine ask.of (by omega) ?_ | simp -dsimp -implicitDefEqProofs only [go_sem, h35, h36, h37, h3', h5, hs, Fd_at hlt, fdC, bleF])
    refine CallE.lend (c_column xs R i hR (by omega) hiR) (by simp -dsimp -implicitDefEqProofs only [go_sem, h35, h36, h37, h3', h5, hs]) ?_
    rintro r rfl
    simp -dsimp -implicitDefEqProofs only [go_sem, h35, h36, h37, h3', h5, hs]
    refine LoopE.cnt R (fun j s => s.env 35 = .rd .ent 101 3 (ra fdC fs) ∧ s.env 36 = .v (.int .i64 fs.length) ∧ s.env 37 = .v (.int .i64 i) ∧ s.env 3 = .ptr [3] 0 0 0 ∧ s.env 7 = .ptr [7] 0 0 0 ∧ s.env 8 = .ref [42] ∧ s.env 5 = .v (.int .i64 (szL clW (xs.take (i * R)) + szL clW ((colL xs R i).take j) : Nat)) ∧ s.env 45 = .rd .ent 149 3 (ra clC (colL xs R i)) ∧ s.env 46 = .v (.int .i64 R) ∧ s.env 47 = .v (.int .i64 j) ∧ s.σ [3] = some (.box 105 [.v (.int .i64 R), .rd .ent 149 3 (ra clC xs)]) ∧ s.σ [7] = some (.box 101 [.rd .ent 5 1 (bytesA fs[i].f), .v (.int .i64 fs[i].k), .v (.int .i64 fs[i].w)]) ∧
      (∃ l, s.σ [42] = some (.mp .string 3 (mpI l)) ∧ l.map (·.1) = dst ((colL xs R i).take j)) ∧ ∀ c ∈ (colL xs R i).take j, clOk fs[i] c) ⟨by simp -dsimp -implicitDefEqProofs only [go_sem, h35, h36, h37, h3', h5, hs], by simp -dsimp -implicitDefEqProofs only [go_sem, h35, h36, h37, h3', h5, hs], by simp -dsimp -implicitDefEqProofs only [go_sem, h35, h36, h37, h3', h5, hs], by simp -dsimp -implicitDefEqProofs only [go_sem, h35, h36, h37, h3', h5, hs], by simp -dsimp -implicitDefEqProofs only [go_sem, h35, h36, h37, h3', h5, hs], by simp -dsimp -implicitDefEqProofs only [go_sem, h35, h36, h37, h3', h5, hs], by simp -dsimp -implicitDefEqProofs only [go_sem, h35, h36, h37, h3', h5, hs] <;> simp [szL], by simp -dsimp -implicitDefEqProofs only [go_sem, h35, h36, h37, h3', h5, hs], by simp -dsimp -implicitDefEqProofs only [go_sem, h35, h36, h37, h3', h5, hs, hcl], by simp -dsimp -implicitDefEqProofs only [go_sem, h35, h36, h37, h3', h5, hs], by simp -dsimp -implicitDefEqProofs only [go_sem, h35, h36, h37, h3', h5, hs], by simp -dsimp -implicitDefEqProofs only [go_sem, h35, h36, h37, h3', h5, hs], ⟨[], by simp -dsimp -implicitDefEqProofs only [go_sem, h35, h36, h37, h3', h5, hs] <;> rfl, by simp [dst]⟩, by simp⟩ ?_
    rintro j ⟨e, σ⟩ hj ⟨h35, h36, h37, h3', h7, h8, h5, h45, h46, h47, hs, hs7, ⟨l, hs42, hlk⟩, ha⟩ K' hK'
    simp only at h35 h36 h37 h3' h7 h8 h5 h45 h46 h47 hs hs7 hs42
    simp -dsimp -implicitDefEqProofs only [go_sem, h35, h36, h37, h3', h7, h8, h5, h45, h46, h47, hs, hs7, hs42]
    refine ifB'.of (fun hjl => ?_) (fun hjl => ?_)
    · have hjl : j < (colL xs R i).length := by omega
      have hcm : (colL xs R i)[j].f.length ≤ 1048576 := hxb _ (colL_mem (List.getElem_mem hjl))
      have hst := szL_take_succ clW hjl
      have hsl := szL_take_le clW (colL xs R i) (j + 1)
      have hcw : clW (colL xs R i)[j] = (colL xs R i)[j].f.length := rfl
      have e1 : IntKind.i64.wrap (((szL clW (xs.take (i * R)) + szL clW ((colL xs R i).take j) : Nat) : Int) + (colL xs R i)[j].f.length) = (szL clW (xs.take (i * R)) + szL clW ((colL xs R i).take (j + 1)) : Nat) := by rw [wrap_i64_of (by omega) (by omega)]; omega
      simp -dsimp -implicitDefEqProofs only [go_sem, h35, h36, h37, h3', h7, h8, h5, h45, h46, h47, hs, hs7, hs42, Cl_at hjl, clC]
      repeat (first | with_reducible refine ask.of (by omega) ?_ | simp -dsimp -implicitDefEqProofs only [go_sem, h35, h36, h37, h3', h7, h8, h5, h45, h46, h47, hs, hs7, hs42, Cl_at hjl, clC, bleF, hcl])
      refine CallE.of (c_cellOk fs[i] (colL xs R i)[j] hfd hcm (hxi _ (colL_mem (List.getElem_mem hjl)))) (by rintro r rfl; (repeat' first | exact trivial | exact pure_rowB _ | exact pure_rowO _ | exact pure_rowI _ | exact pure_rowBB _ | exact pure_rowPk _ _ | exact pure_rowSn _ _ | exact pure_rowFd _ _ | exact pure_rowBBB _ | exact pure_rowCl _ _ | exact pure_rowTb _ _ _ | refine And.intro ?_ ?_)) (by simp -dsimp -implicitDefEqProofs only [go_sem, h35, h36, h37, h3', h7, h8, h5, h45, h46, h47, hs, hs7, hs42, fdC, clC]) ?_
      rintro r rfl
      simp -dsimp -implicitDefEqProofs only [go_sem, h35, h36, h37, h3', h7, h8, h5, h45, h46, h47, hs, hs7, hs42, fdC, clC]
      refine ifB'.of (fun hq => ?_) (fun hq => ?_)
      · simp -dsimp -implicitDefEqProofs only [go_sem, h35, h36, h37, h3', h7, h8, h5, h45, h46, h47, hs, hs7, hs42, Cl_at hjl, clC]
        repeat (first | with_reducible refine ask.of (by omega) ?_ | simp -dsimp -implicitDefEqProofs only [go_sem, h35, h36, h37, h3', h7, h8, h5, h45, h46, h47, hs, hs7, hs42, Cl_at hjl, clC, bleF, hcl, e1])
        cases hz : (colL xs R i)[j].z
        · simp -dsimp -implicitDefEqProofs only [go_sem, h35, h36, h37, h3', h7, h8, h5, h45, h46, h47, hs, hs7, hs42, hz, Bool.not_false]
          repeat (first | with_reducible refine ask.of (by omega) ?_ | simp -dsimp -implicitDefEqProofs only [go_sem, h35, h36, h37, h3', h7, h8, h5, h45, h46, h47, hs, hs7, hs42, Cl_at hjl, clC, bleF, hcl, e1, mgetI, mputI])
          refine hK' _ (by omega) ?_
          simp -dsimp -implicitDefEqProofs only [go_sem, h35, h36, h37, h3', h7, h8, h5, h45, h46, h47, hs, hs7, hs42, wrap_succ (show j < 4611686018427387904 by omega), e1]
          refine ⟨⟨_, rfl, ?_⟩, all_take_succ hjl ha hq⟩
          rw [dst_succ hjl]
          exact putI_dst hlk hz _
        · have hno : dstep (dst ((colL xs R i).take j)) (colL xs R i)[j] = dst ((colL xs R i).take j) := dstep_no (fun h => by rw [hz] at h; cases h.1)
          simp -dsimp -implicitDefEqProofs only [go_sem, h35, h36, h37, h3', h7, h8, h5, h45, h46, h47, hs, hs7, hs42, hz, Bool.not_true]
          refine hK' _ (by omega) ?_
          simp -dsimp -implicitDefEqProofs only [go_sem, h35, h36, h37, h3', h7, h8, h5, h45, h46, h47, hs, hs7, hs42, wrap_succ (show j < 4611686018427387904 by omega), e1]
          exact ⟨⟨_, rfl, by rw [dst_succ hjl, hno]; exact hlk⟩, all_take_succ hjl ha hq⟩
      · simp -dsimp -implicitDefEqProofs only [go_sem, h35, h36, h37, h3', h7, h8, h5, h45, h46, h47, hs, hs7, hs42]
        refine tb_f (fun h => hq ((h.2.2.1 i hlt).1 _ ?_))
        rw [Int.toNat_natCast]; exact List.getElem_mem _
    · have : j = R := by omega
      subst this
      have htk : (colL xs j i).take j = colL xs j i := List.take_of_length_le (by omega)
      have hall : ∀ c ∈ colL xs j i, clOk fs[i] c := by rw [htk] at ha; exact ha
      have hsum : szL clW (xs.take (i * j)) + szL clW ((colL xs j i).take j) = szL clW (xs.take ((i + 1) * j)) := by rw [htk]; exact hsz
      have hll : l.length = (dst (colL xs j i)).length := by rw [← htk, ← hlk]; simp
      simp -dsimp -implicitDefEqProofs only [go_sem, h35, h36, h37, h3', h7, h8, h5, h45, h46, h47, hs, hs7, hs42, hsum]
      repeat (first | with_reducible refine ask.of (by omega) ?_ | simp -dsimp -implicitDefEqProofs only [go_sem, h35, h36, h37, h3', h7, h8, h5, h45, h46, h47, hs, hs7, hs42, bleF])
      refine ifB'.of (fun hk => ?_) (fun hk => ?_)
      · simp -dsimp -implicitDefEqProofs only [go_sem, h35, h36, h37, h3', h7, h8, h5, h45, h46, h47, hs, hs7, hs42, mpI_length]
        refine ifB'.of (fun hy => ?_) (fun hy => ?_)
        · simp -dsimp -implicitDefEqProofs only [go_sem, h35, h36, h37, h3', h7, h8, h5, h45, h46, h47, hs, hs7, hs42]
          refine tb_f (fun h => ?_)
          have h9 := (h.2.2.1 i hlt).2 hk
          rw [Int.toNat_natCast] at h9
          omega
        · simp -dsimp -implicitDefEqProofs only [go_sem, h35, h36, h37, h3', h7, h8, h5, h45, h46, h47, hs, hs7, hs42]
          refine hK _ hlt ?_
          simp -dsimp -implicitDefEqProofs only [go_sem, h35, h36, h37, h3', h7, h8, h5, h45, h46, h47, hs, hs7, hs42, wrap_succ (show i < 4611686018427387904 by omega), hsum]
          intro k hkf hki
          by_cases hke : k = i
          · subst hke
            exact ⟨hall, fun _ => by omega⟩
          · exact hc k hkf (by omega)
      · simp -dsimp -implicitDefEqProofs only [go_sem, h35, h36, h37, h3', h7, h8, h5, h45, h46, h47, hs, hs7, hs42]
        refine hK _ hlt ?_
        simp -dsimp -implicitDefEqProofs only [go_sem, h35, h36, h37, h3', h7, h8, h5, h45, h46, h47, hs, hs7, hs42, wrap_succ (show i < 4611686018427387904 by omega), hsum]
        intro k hkf hki
        by_cases hke : k = i
        · subst hke
          exact ⟨hall, fun h' => absurd h' hk⟩
        · exact hc k hkf (by omega)
  · have : i = fs.length := by omega
    subst this
    simp -dsimp -implicitDefEqProofs only [go_sem, h35, h36, h37, h3', h5, hs]
    rw [← hlen, List.take_length]
    refine tb_d ⟨fun h => ⟨hF, ⟨by omega, by omega, by rw [hlen, Int.natCast_mul, Int.mul_comm]⟩, fun k hk => by rw [Int.toNat_natCast]; exact hc k hk hk, by omega⟩, fun h => by have := h.2.2.2; omega⟩
end Go.Ev
set_option linter.unusedSimpArgs false
set_option linter.unusedVariables false
namespace Go.Ev
open Go Go.RowKit Go.Proofs
def tbW (x : Tb) : Nat := x.c.length + szL clW x.c
def tb0 : Tb := ⟨0, []⟩
def tOk (x : Tb) (n : Nat) : Prop := x.c.length ≤ n ∧ ∀ c ∈ x.c, c.f.length ≤ n
def rowTb (T C : Nat) (xs : List Tb) : AV := .row T 2 (ra (tbC C) xs)
theorem bl22 : Nat.ble 1 2 = true ∧ Nat.ble 2 2 = true := ⟨rfl, rfl⟩
theorem pure_rowTb (T C : Nat) (xs : List Tb) : (rowTb T C xs).pure := pureEls_ra (enc := tbC C) (fun x => ⟨trivial, pureEls_ra (enc := clC) (fun x => ⟨trivial, trivial, pureEls_bytes _, trivial⟩) x.c, trivial⟩) xs
theorem tbA_at {C : Nat} {xs : List Tb} {i : Nat} (h : i < xs.length) : (ra (tbC C) xs)[i]? = some [.v (.int .i64 xs[i].r), .row C 3 (ra clC xs[i].c)] := ra_at h
theorem tbA_set (C : Nat) (xs : List Tb) (i : Nat) (x : Tb) : (ra (tbC C) xs).set i [.v (.int .i64 x.r), .row C 3 (ra clC x.c)] = ra (tbC C) (xs.set i x) := ra_set (enc := tbC C) xs i x
theorem tbA_zeros (C n : Nat) : List.replicate n [AV.v (.int .i64 0), AV.row C 3 []] = ra (tbC C) (List.replicate n tb0) := by simp [ra, tbC, tb0]
theorem tb_snoc (C : Nat) (xs : List Tb) (x : Tb) : ra (tbC C) xs ++ [[.v (.int .i64 x.r), .row C 3 (ra clC x.c)]] = ra (tbC C) (xs ++ [x]) := by simp [ra, tbC]
theorem tb_takeS {C : Nat} {xs : List Tb} {i : Nat} (h : i < xs.length) : ra (tbC C) (xs.take i) ++ [[.v (.int .i64 xs[i].r), .row C 3 (ra clC xs[i].c)]] = ra (tbC C) (xs.take (i + 1)) := by rw [tb_snoc, List.take_succ_eq_append_getElem h]
theorem cl_snoc (xs : List Cl) (x : Cl) : ra clC xs ++ [[.v (.bool x.z), .v (.int .i64 x.i), .row 5 1 (bytesA x.f)]] = ra clC (xs ++ [x]) := by simp [ra, clC]
theorem cl_takeS {xs : List Cl} {i : Nat} (h : i < xs.length) : ra clC (xs.take i) ++ [[.v (.bool xs[i].z), .v (.int .i64 xs[i].i), .row 5 1 (bytesA xs[i].f)]] = ra clC (xs.take (i + 1)) := by rw [cl_snoc, List.take_succ_eq_append_getElem h]
theorem clW_mem {xs : List Cl} {b : Cl} (h : b ∈ xs) : b.f.length ≤ szL clW xs := mem_clW h
theorem tbW_ok {x : Tb} {n : Nat} (h : tbW x ≤ n) : tOk x n := ⟨by unfold tbW at h; omega, fun c hc => by have := clW_mem hc; unfold tbW at h; omega⟩
theorem mem_tbW {xs : List Tb} {b : Tb} (h : b ∈ xs) : tbW b ≤ szL tbW xs := by
  obtain ⟨i, hi, rfl⟩ := List.mem_iff_getElem.1 h
  have := szL_at_le tbW hi
  omega
theorem c_szTableS (xs : List Tb) (left : Nat) (hl : left ≤ 1048576) (hx : xs.length ≤ 140737488355328) (hb : ∀ b ∈ xs, tOk b 140737488355328) : Meets Tryz.prog 18 [rowTb 88 165 xs, .v (.int .i64 left)] (fun r => r = .v (.int .i64 (szR left (xs.length + szL tbW xs)))) := by
  refine Meets.intro mixed (hint []) Tryz.func18 rfl (by decide) res_18 rty_18 (by kernel_rfl) ?_; 
  have e : IntKind.i64.wrap ((left : Int) - xs.length) = (left : Int) - xs.length := wrap_i64_of (by omega) (by omega)
  simp -dsimp -implicitDefEqProofs only [go_sem, e, rowTb]
  refine ifB'.of (fun h => ?_) (fun h => ?_)
  · simp -dsimp -implicitDefEqProofs only [go_sem]
    rw [szR_no (by omega)]
  simp -dsimp -implicitDefEqProofs only [go_sem, e]
  refine LoopE.cnt xs.length (fun i s => s.env 0 = .rd .ent 88 2 (ra (tbC 165) xs) ∧ s.env 5 = .v (.int .i64 i) ∧ xs.length + szL tbW (xs.take i) ≤ left ∧ s.env 1 = .v (.int .i64 ((left - (xs.length + szL tbW (xs.take i)) : Nat) : Int))) ⟨by simp -dsimp -implicitDefEqProofs only [go_sem, initE, rowTb], by simp -dsimp -implicitDefEqProofs only [go_sem] <;> simp, by simp [szL]; omega, by simp -dsimp -implicitDefEqProofs only [go_sem] <;> (congr 2; simp [szL]; omega)⟩ ?_
  rintro i ⟨e, σ⟩ hi ⟨h0, h5, hle, h1⟩ K hK
  simp only at h0 h5 h1
  simp -dsimp -implicitDefEqProofs only [go_sem, h0, h5, h1]
  refine ifB'.of (fun hlt => ?_) (fun hlt => ?_)
  · have hlt : i < xs.length := by omega
    have hs := szL_take_succ tbW hlt
    have hw := szL_take_le tbW xs (i + 1)
    have hbi := hb _ (List.getElem_mem hlt)
    have hww : tbW xs[i] = xs[i].c.length + szL clW xs[i].c := rfl
    repeat (first | with_reducible refine ask.of (by omega) ?_ | simp -dsimp -implicitDefEqProofs only [go_sem, h0, h5, h1, tbA_at hlt, bl22])
    refine CallE.of (c_szTable xs[i] (left - (xs.length + szL tbW (xs.take i))) (by omega) hbi.1 hbi.2) (by rintro r rfl; (repeat' first | exact trivial | exact pure_rowB _ | exact pure_rowO _ | exact pure_rowI _ | exact pure_rowBB _ | exact pure_rowPk _ _ | exact pure_rowSn _ _ | exact pure_rowFd _ _ | exact pure_rowBBB _ | exact pure_rowCl _ _ | exact pure_rowTb _ _ _ | refine And.intro ?_ ?_)) (by simp -dsimp -implicitDefEqProofs only [go_sem, h0, h5, h1, tbC]) ?_
    rintro r rfl
    simp -dsimp -implicitDefEqProofs only [go_sem, h0, h5, h1, tbC]
    refine ifB'.of (fun hn => ?_) (fun hn => ?_)
    · have : ¬ tbW xs[i] ≤ left - (xs.length + szL tbW (xs.take i)) := fun h => by rw [hww] at h; rw [szR_ok h] at hn; omega
      simp -dsimp -implicitDefEqProofs only [go_sem, h0, h5, h1]
      rw [szR_no (by omega)]
    · have h : xs[i].c.length + szL clW xs[i].c ≤ left - (xs.length + szL tbW (xs.take i)) := Classical.byContradiction fun h => by rw [szR_no h] at hn; omega
      simp -dsimp -implicitDefEqProofs only [go_sem, h0, h5, h1]
      refine hK _ hlt ?_
      simp -dsimp -implicitDefEqProofs only [go_sem, h0, h5, h1, wrap_succ (show i < 4611686018427387904 by omega), szR_ok h, hs, hww]
      exact ⟨by omega, by omega⟩
  · have : i = xs.length := by omega
    subst this
    simp -dsimp -implicitDefEqProofs only [go_sem, h0, h5, h1]
    rw [List.take_length] at hle ⊢
    rw [szR_ok (by omega)]
theorem c_toTableS (xs : List Tb) (hx : xs.length ≤ 1048576) (hb : ∀ b ∈ xs, tOk b 1048576) : Meets Tryz.prog 25 [rowTb 88 165 xs] (fun r => r = rowTb 105 149 xs) := by
  refine Meets.intro mixed (hint []) Tryz.func25 rfl (by decide) res_25 rty_25 (by kernel_rfl) ?_; 
  simp -dsimp -implicitDefEqProofs only [go_sem, rowTb]
  refine ask.of (by omega) ?_
  refine LoopE.cnt xs.length (fun i s => s.env 0 = .rd .ent 88 2 (ra (tbC 165) xs) ∧ s.env 3 = .ref [7] ∧ s.env 4 = .v (.int .i64 i) ∧ s.σ [7] = some (.row 105 2 (ra (tbC 149) (xs.take i ++ List.replicate (xs.length - i) tb0)))) ⟨by simp -dsimp -implicitDefEqProofs only [go_sem, initE, rowTb], by simp -dsimp -implicitDefEqProofs only [go_sem], by simp -dsimp -implicitDefEqProofs only [go_sem] <;> simp, by simp -dsimp -implicitDefEqProofs only [go_sem, tbA_zeros] <;> simp⟩ ?_
  rintro i ⟨e, σ⟩ hi ⟨h0, h3, h4, hs⟩ K hK
  simp only at h0 h3 h4 hs
  simp -dsimp -implicitDefEqProofs only [go_sem, h0, h3, h4, hs]
  refine ifB'.of (fun hlt => ?_) (fun hlt => ?_)
  · have hlt : i < xs.length := by omega
    have hl : (List.take i xs ++ List.replicate (xs.length - i) tb0).length = xs.length := by simp; omega
    have hbi := hb _ (List.getElem_mem hlt)
    repeat (first | with_reducible refine ask.of (by omega) ?_ | simp -dsimp -implicitDefEqProofs only [go_sem, h0, h3, h4, hs, tbA_at hlt, bl22])
    refine CallE.of (c_toTable xs[i] hbi.1 hbi.2) (by rintro r rfl; (repeat' first | exact trivial | exact pure_rowB _ | exact pure_rowO _ | exact pure_rowI _ | exact pure_rowBB _ | exact pure_rowPk _ _ | exact pure_rowSn _ _ | exact pure_rowFd _ _ | exact pure_rowBBB _ | exact pure_rowCl _ _ | exact pure_rowTb _ _ _ | refine And.intro ?_ ?_)) (by simp -dsimp -implicitDefEqProofs only [go_sem, h0, h3, h4, hs, tbC]) ?_
    rintro r rfl
    simp -dsimp -implicitDefEqProofs only [go_sem, h0, h3, h4, hs, tbC]
    simp -dsimp -implicitDefEqProofs only [go_sem, h0, h3, h4, hs, hl]
    repeat (first | with_reducible refine ask.of (by omega) ?_ | simp -dsimp -implicitDefEqProofs only [go_sem, h0, h3, h4, hs, hl, tbA_at (C := 149) (show i < (List.take i xs ++ List.replicate (xs.length - i) tb0).length by omega), bl22])
    refine hK _ hlt ?_
    simp -dsimp -implicitDefEqProofs only [go_sem, h0, h3, h4, hs, wrap_succ (show i < 4611686018427387904 by omega)]
    exact congrArg (fun l => some (OB.row _ 2 l)) ((tbA_set _ _ i xs[i]).trans (congrArg (ra (tbC 149)) (fill_set xs tb0 hlt)))
  · have : i = xs.length := by omega
    subst this
    simp -dsimp -implicitDefEqProofs only [go_sem, h0, h3, h4, hs, rowTb]
    simp
theorem c_eqTableS (xs : List Tb) (hx : xs.length ≤ 1048576) (hb : ∀ b ∈ xs, tOk b 1048576) : Meets Tryz.prog 32 [rowTb 105 149 xs, rowTb 105 149 xs] (fun r => r = .v (.bool true)) := by
  refine Meets.intro mixed (hint []) Tryz.func32 rfl (by decide) res_32 rty_32 (by kernel_rfl) ?_; 
  simp -dsimp -implicitDefEqProofs only [go_sem, decide_true, Bool.not_true, rowTb]
  refine LoopE.cnt xs.length (fun i s => s.env 0 = .rd .ent 105 2 (ra (tbC 149) xs) ∧ s.env 1 = .rd .ent 105 2 (ra (tbC 149) xs) ∧ s.env 5 = .v (.int .i64 i)) ⟨by simp -dsimp -implicitDefEqProofs only [go_sem, initE, rowTb], by simp -dsimp -implicitDefEqProofs only [go_sem, initE, rowTb], by simp -dsimp -implicitDefEqProofs only [go_sem] <;> simp⟩ ?_
  rintro i ⟨e, σ⟩ hi ⟨h0, h1, h5⟩ K hK
  simp only at h0 h1 h5
  simp -dsimp -implicitDefEqProofs only [go_sem, h0, h1, h5]
  refine ifB'.of (fun hlt => ?_) (fun hlt => ?_)
  · have hlt : i < xs.length := by omega
    have hbi := hb _ (List.getElem_mem hlt)
    repeat (first | with_reducible refine ask.of (by omega) ?_ | simp -dsimp -implicitDefEqProofs only [go_sem, h0, h1, h5, tbA_at hlt, bl22])
    refine CallE.of (c_eqTable xs[i] hbi.1 hbi.2) (by rintro r rfl; (repeat' first | exact trivial | exact pure_rowB _ | exact pure_rowO _ | exact pure_rowI _ | exact pure_rowBB _ | exact pure_rowPk _ _ | exact pure_rowSn _ _ | exact pure_rowFd _ _ | exact pure_rowBBB _ | exact pure_rowCl _ _ | exact pure_rowTb _ _ _ | refine And.intro ?_ ?_)) (by simp -dsimp -implicitDefEqProofs only [go_sem, h0, h1, h5, Bool.not_true, tbC]) ?_
    rintro r rfl
    simp -dsimp -implicitDefEqProofs only [go_sem, h0, h1, h5, Bool.not_true, tbC]
    refine hK _ hlt ?_
    simp -dsimp -implicitDefEqProofs only [go_sem, h0, h1, h5, wrap_succ (show i < 4611686018427387904 by omega)]
  · simp -dsimp -implicitDefEqProofs only [go_sem, h0, h1, h5]
set_option maxRecDepth 8000 in
theorem c_l6table (x : Tb) (hx : tOk x 1048576) : Meets Tryz.prog 94 [.agg (tbC 149 x)] (fun r => r = .agg (tbC 149 x)) := by
  refine Meets.introO mixed (hint []) (fun k => (sel (k == 6) [0,1,2,3,4,5,6,7,8,9,10,11,12,13] [])) Tryz.func94 rfl (by decide) res_94 rty_94 (by kernel_rfl) ?_; 
  simp -dsimp -implicitDefEqProofs only [go_sem, tbC]
  repeat (first | with_reducible refine ask.of (by first | omega | decide) ?_ | simp -dsimp -implicitDefEqProofs only [go_sem, bl22, bl3])
  refine LoopE.cntW x.c.length (fun i s => s.env 1 = .ptr [1] 0 0 0 ∧ s.env 2 = .ptr [2] 0 0 0 ∧ s.env 3 = .ptr [3] 0 0 0 ∧ s.env 4 = .v (.int .i64 i) ∧ s.σ [1] = some (.box 105 [.v (.int .i64 x.r), .rd .ent 149 3 (ra clC x.c)])
    ∧ s.σ [2] = some (.box 105 [.v (.int .i64 0), .v (.slice none 0 0)]) ∧ s.σ [3] = some (.box 105 [.v (.int .i64 x.r), .ref [50]]) ∧ s.σ [50] = some (.row 149 3 (ra clC (x.c.take i))))
    (Wk.box [3] 1 [50] 149 3 105 [.v (.int .i64 x.r), .v (.slice none 0 0)] ?_ rfl rfl (Wk.refl _)) ?_ ?_
  · simp -dsimp -implicitDefEqProofs only [go_sem]
  · refine ⟨by simp -dsimp -implicitDefEqProofs only [go_sem], by simp -dsimp -implicitDefEqProofs only [go_sem], by simp -dsimp -implicitDefEqProofs only [go_sem], by simp -dsimp -implicitDefEqProofs only [go_sem] <;> rfl, by simp -dsimp -implicitDefEqProofs only [go_sem], by simp -dsimp -implicitDefEqProofs only [go_sem], by simp -dsimp -implicitDefEqProofs only [go_sem] <;> rfl, by simp -dsimp -implicitDefEqProofs only [go_sem] <;> rfl⟩
  rintro i ⟨e, σ⟩ hi ⟨h1, h2, h3, h4, hs1, hs2, hs3, hs50⟩ K hK
  simp only at h1 h2 h3 h4 hs1 hs2 hs3 hs50
  simp -dsimp -implicitDefEqProofs only [go_sem, h1, h2, h3, h4, hs1, hs2, hs3, hs50]
  repeat (first | with_reducible refine ask.of (by first | omega | decide) ?_ | simp -dsimp -implicitDefEqProofs only [go_sem, h1, h2, h3, h4, hs1, hs2, hs3, hs50, bl22, bl3])
  refine ifB'.of (fun hlt => ?_) (fun hlt => ?_)
  · have hlt : i < x.c.length := by omega
    have hp := hx.2 _ (List.getElem_mem hlt)
    have hx1 := hx.1
    repeat (first | with_reducible refine ask.of (by first | omega | decide) ?_ | simp -dsimp -implicitDefEqProofs only [go_sem, h1, h2, h3, h4, hs1, hs2, hs3, hs50, bl22, bl3, Cl_at hlt, clC])
    refine CallE.of (c_l1copy x.c[i].f (by omega)) (by rintro r rfl; (repeat' first | exact trivial | exact pure_rowB _ | exact pure_rowO _ | exact pure_rowI _ | exact pure_rowBB _ | exact pure_rowPk _ _ | exact pure_rowSn _ _ | exact pure_rowFd _ _ | exact pure_rowBBB _ | exact pure_rowCl _ _ | exact pure_rowTb _ _ _ | refine And.intro ?_ ?_)) (by simp -dsimp -implicitDefEqProofs only [go_sem, h1, h2, h3, h4, hs1, hs2, hs3, hs50]) ?_
    rintro r rfl
    simp -dsimp -implicitDefEqProofs only [go_sem, h1, h2, h3, h4, hs1, hs2, hs3, hs50]
    repeat (first | with_reducible refine ask.of (by first | omega | decide | (simp; omega)) ?_ | simp -dsimp -implicitDefEqProofs only [go_sem, h1, h2, h3, h4, hs1, hs2, hs3, hs50, bl22, bl3, Cl_at hlt, clC])
    refine hK _ _ hlt (Wk.refl _) ?_
    simp -dsimp -implicitDefEqProofs only [go_sem, h1, h2, h3, h4, hs1, hs2, hs3, hs50, wrap_succ (show i < 4611686018427387904 by omega), cl_takeS hlt]
  · have : i = x.c.length := by omega
    subst this
    rw [List.take_length] at hs50
    simp -dsimp -implicitDefEqProofs only [go_sem, h1, h2, h3, h4, hs1, hs2, hs3, hs50]
    repeat (first | with_reducible refine ask.of (by first | omega | decide) ?_ | simp -dsimp -implicitDefEqProofs only [go_sem, h1, h2, h3, h4, hs1, hs2, hs3, hs50, bl22, bl3])
end Go.Ev
set_option linter.unusedSimpArgs false
set_option linter.unusedVariables false
namespace Go.Ev
open Go Go.RowKit Go.Proofs
set_option maxHeartbeats 1000000 in
theorem c_specValidStream (x : Sm) (h1 : x.fs.length ≤ 1048576) (h2 : ∀ b ∈ x.fs, b.f.length ≤ 1048576) (h3 : x.ds.length ≤ 1048576) (h4 : ∀ b ∈ x.ds, b.length + wBB b ≤ 1048576) : Meets Tryz.prog 55 [.agg (smC 101 x)] (fun r => r = .v (.bool (smB x))) := by
  refine Meets.intro mixed (hint []) Tryz.func55 rfl (by decide) res_55 rty_55 (by kernel_rfl) ?_; 
  simp -dsimp -implicitDefEqProofs only [go_sem, smC]
  cases ho : x.o
  · repeat' (first | with_reducible refine ifB'.of (fun h => ?_) (fun h => ?_) | with_reducible refine ask.of (by omega) ?_ | ((with_reducible refine sm_f ?_); unfold okS; simp only [ho, if_false, Bool.false_eq_true]; omega) | ((with_reducible refine sm_t ?_); unfold okS; simp only [ho, if_false, Bool.false_eq_true]; omega) | ((with_reducible refine sm_d ?_); unfold okS; simp only [ho, if_false, Bool.false_eq_true]; omega) | simp -dsimp -implicitDefEqProofs only [go_sem, ho, Bool.not_false])
  have fin : (okF x.fs ∧ 0 ≤ x.s ∧ x.s ≤ 1000000000 ∧ x.ds.length = x.fs.length ∧ ∀ i (h : i < x.ds.length), smAt x i h) ↔ okS x := by unfold okS; rw [if_pos ho]
  simp -dsimp -implicitDefEqProofs only [go_sem, ho, Bool.not_true]
  repeat (first | with_reducible refine ask.of (by omega) ?_ | simp -dsimp -implicitDefEqProofs only [go_sem, bleF])
  refine CallE.of (c_sValidFields x.fs h1 h2) (by rintro r rfl; (repeat' first | exact trivial | exact pure_rowB _ | exact pure_rowO _ | exact pure_rowI _ | exact pure_rowBB _ | exact pure_rowPk _ _ | exact pure_rowSn _ _ | exact pure_rowFd _ _ | exact pure_rowBBB _ | exact pure_rowCl _ _ | exact pure_rowTb _ _ _ | refine And.intro ?_ ?_)) (by simp -dsimp -implicitDefEqProofs only [go_sem, rowFd]) ?_
  rintro r rfl
  simp -dsimp -implicitDefEqProofs only [go_sem, rowFd]
  by_cases hF : okF x.fs
  case neg =>
    simp -dsimp -implicitDefEqProofs only [go_sem, decide_eq_false hF, Bool.not_false]
    exact sm_f (fun h => hF (fin.2 h).1)
  simp -dsimp -implicitDefEqProofs only [go_sem, decide_eq_true hF, Bool.not_true]
  repeat (first | with_reducible refine ask.of (by omega) ?_ | simp -dsimp -implicitDefEqProofs only [go_sem, bleF])
  refine ifB'.of (fun h => ?_) (fun hs0 => ?_)
  · simp -dsimp -implicitDefEqProofs only [go_sem]
    exact sm_f (fun h' => by have := (fin.2 h').2.1; omega)
  simp -dsimp -implicitDefEqProofs only [go_sem]
  repeat (first | with_reducible refine ask.of (by omega) ?_ | simp -dsimp -implicitDefEqProofs only [go_sem, bleF])
  refine ifB'.of (fun h => ?_) (fun hs1 => ?_)
  · simp -dsimp -implicitDefEqProofs only [go_sem]
    exact sm_f (fun h' => by have := (fin.2 h').2.2.1; omega)
  simp -dsimp -implicitDefEqProofs only [go_sem]
  repeat (first | with_reducible refine ask.of (by omega) ?_ | simp -dsimp -implicitDefEqProofs only [go_sem, bleF])
  refine ifB'.of (fun hl => ?_) (fun hl => ?_)
  case refine_2 =>
    simp -dsimp -implicitDefEqProofs only [go_sem]
    exact sm_f (fun h' => by have := (fin.2 h').2.2.2.1; omega)
  have hl : x.ds.length = x.fs.length := by omega
  simp -dsimp -implicitDefEqProofs only [go_sem]
  repeat (first | with_reducible refine ask.of (by omega) ?_ | simp -dsimp -implicitDefEqProofs only [go_sem, bleF])
  refine LoopE.cnt x.ds.length (fun i s => s.env 1 = .ptr [1] 0 0 0 ∧ s.env 3 = .v (.int .i64 i) ∧ s.σ [1] = some (.box 39 [.v (.bool true), .rd .ent 101 3 (ra fdC x.fs), .v (.int .i64 x.s), .rd .ent 132 1 (ra bbC x.ds)]) ∧ (True) ∧ ∀ j (h : j < x.ds.length), j < i → smAt x j h) ⟨by simp -dsimp -implicitDefEqProofs only [go_sem], by simp -dsimp -implicitDefEqProofs only [go_sem], by simp -dsimp -implicitDefEqProofs only [go_sem, ho], trivial, fun j _ h => absurd h (by omega)⟩ ?_
  rintro i ⟨e, σ⟩ hi ⟨e1, e3, hs, hm, ha⟩ K hK
  simp only at e1 e3 hs
  
  simp -dsimp -implicitDefEqProofs only [go_sem, e1, e3, hs]
  repeat (first | with_reducible refine ask.of (by omega) ?_ | simp -dsimp -implicitDefEqProofs only [go_sem, e1, e3, hs, bleF])
  refine ifB'.of (fun hlt => ?_) (fun hlt => ?_)
  · have hlt : i < x.ds.length := by omega
    have hlf : i < x.fs.length := by omega
    simp -dsimp -implicitDefEqProofs only [go_sem, e1, e3, hs, bbA_at hlt]
    repeat (first | with_reducible refine ask.of (by omega) ?_ | simp -dsimp -implicitDefEqProofs only [go_sem, e1, e3, hs, bleF, bbA_at hlt])
    refine CallE.of (c_sValidDict x.ds[i] (h4 _ (List.getElem_mem _))) (by rintro r rfl; (repeat' first | exact trivial | exact pure_rowB _ | exact pure_rowO _ | exact pure_rowI _ | exact pure_rowBB _ | exact pure_rowPk _ _ | exact pure_rowSn _ _ | exact pure_rowFd _ _ | exact pure_rowBBB _ | exact pure_rowCl _ _ | exact pure_rowTb _ _ _ | refine And.intro ?_ ?_)) (by simp -dsimp -implicitDefEqProofs only [go_sem, e1, e3, hs]) ?_
    rintro r rfl
    simp -dsimp -implicitDefEqProofs only [go_sem, e1, e3, hs]
    by_cases hk : okD x.ds[i]
    case neg =>
      simp -dsimp -implicitDefEqProofs only [go_sem, e1, e3, hs, decide_eq_false hk, Bool.not_false]
      exact sm_f (fun h => hk ((fin.2 h).2.2.2.2 i hlt).1)
    simp -dsimp -implicitDefEqProofs only [go_sem, e1, e3, hs, decide_eq_true hk, Bool.not_true]
    repeat (first | with_reducible refine ask.of (by omega) ?_ | simp -dsimp -implicitDefEqProofs only [go_sem, e1, e3, hs, bleF, Fd_at hlf, fdC])
    refine ifB'.of (fun h3 => ?_) (fun h3 => ?_)
    · simp -dsimp -implicitDefEqProofs only [go_sem, e1, e3, hs]
      refine hK _ hlt ?_
      simp -dsimp -implicitDefEqProofs only [go_sem, e1, e3, hs, wrap_succ (show i < 4611686018427387904 by omega), ho]
      try refine ⟨⟨rfl, rfl⟩, ?_⟩
      try refine ⟨trivial, ?_⟩
      intro j hj hji
      by_cases hje : j = i
      · subst hje
        exact ⟨hk, hlf, .inl h3⟩
      · exact ha j hj (by omega)
    · simp -dsimp -implicitDefEqProofs only [go_sem, e1, e3, hs]
      repeat (first | with_reducible refine ask.of (by omega) ?_ | simp -dsimp -implicitDefEqProofs only [go_sem, e1, e3, hs, bleF, bbA_at hlt])
      refine ifB'.of (fun h5 => ?_) (fun h5 => ?_)
      · simp -dsimp -implicitDefEqProofs only [go_sem, e1, e3, hs]
        refine sm_f (fun h => ?_)
        obtain ⟨_, _, h6⟩ := (fin.2 h).2.2.2.2 i hlt
        rcases h6 with h6 | h6
        · exact h3 h6
        · omega
      · simp -dsimp -implicitDefEqProofs only [go_sem, e1, e3, hs]
        refine hK _ hlt ?_
        simp -dsimp -implicitDefEqProofs only [go_sem, e1, e3, hs, wrap_succ (show i < 4611686018427387904 by omega), ho]
        try refine ⟨⟨rfl, rfl⟩, ?_⟩
        try refine ⟨trivial, ?_⟩
        intro j hj hji
        by_cases hje : j = i
        · subst hje
          exact ⟨hk, hlf, .inr (by omega)⟩
        · exact ha j hj (by omega)
  · simp -dsimp -implicitDefEqProofs only [go_sem, e1, e3, hs]
    exact sm_t (fin.1 ⟨hF, by omega, by omega, hl, fun j hj => ha j hj (by omega)⟩)
set_option maxHeartbeats 1000000 in
theorem c_implValidStream (x : Sm) (h1 : x.fs.length ≤ 1048576) (h2 : ∀ b ∈ x.fs, b.f.length ≤ 1048576) (h3 : x.ds.length ≤ 1048576) (h4 : ∀ b ∈ x.ds, b.length + wBB b ≤ 1048576) : Meets Tryz.prog 71 [.agg (smC 101 x)] (fun r => r = .v (.bool (smB x))) := by
  refine Meets.intro mixed (hint []) Tryz.func71 rfl (by decide) res_71 rty_71 (by kernel_rfl) ?_; 
  simp -dsimp -implicitDefEqProofs only [go_sem, smC]
  cases ho : x.o
  · repeat' (first | with_reducible refine ifB'.of (fun h => ?_) (fun h => ?_) | with_reducible refine ask.of (by omega) ?_ | ((with_reducible refine sm_f ?_); unfold okS; simp only [ho, if_false, Bool.false_eq_true]; omega) | ((with_reducible refine sm_t ?_); unfold okS; simp only [ho, if_false, Bool.false_eq_true]; omega) | ((with_reducible refine sm_d ?_); unfold okS; simp only [ho, if_false, Bool.false_eq_true]; omega) | simp -dsimp -implicitDefEqProofs only [go_sem, ho, Bool.not_false])
  have fin : (okF x.fs ∧ 0 ≤ x.s ∧ x.s ≤ 1000000000 ∧ x.ds.length = x.fs.length ∧ ∀ i (h : i < x.ds.length), smAt x i h) ↔ okS x := by unfold okS; rw [if_pos ho]
  simp -dsimp -implicitDefEqProofs only [go_sem, ho, Bool.not_true]
  repeat (first | with_reducible refine ask.of (by omega) ?_ | simp -dsimp -implicitDefEqProofs only [go_sem, bleF])
  refine CallE.of (c_iValidFields x.fs h1 h2) (by rintro r rfl; (repeat' first | exact trivial | exact pure_rowB _ | exact pure_rowO _ | exact pure_rowI _ | exact pure_rowBB _ | exact pure_rowPk _ _ | exact pure_rowSn _ _ | exact pure_rowFd _ _ | exact pure_rowBBB _ | exact pure_rowCl _ _ | exact pure_rowTb _ _ _ | refine And.intro ?_ ?_)) (by simp -dsimp -implicitDefEqProofs only [go_sem, rowFd]) ?_
  rintro r rfl
  simp -dsimp -implicitDefEqProofs only [go_sem, rowFd]
  by_cases hF : okF x.fs
  case neg =>
    simp -dsimp -implicitDefEqProofs only [go_sem, decide_eq_false hF, Bool.not_false]
    exact sm_f (fun h => hF (fin.2 h).1)
  simp -dsimp -implicitDefEqProofs only [go_sem, decide_eq_true hF, Bool.not_true]
  repeat (first | with_reducible refine ask.of (by omega) ?_ | simp -dsimp -implicitDefEqProofs only [go_sem, bleF])
  refine ifB'.of (fun h => ?_) (fun hs0 => ?_)
  · simp -dsimp -implicitDefEqProofs only [go_sem]
    exact sm_f (fun h' => by have := (fin.2 h').2.1; omega)
  simp -dsimp -implicitDefEqProofs only [go_sem]
  repeat (first | with_reducible refine ask.of (by omega) ?_ | simp -dsimp -implicitDefEqProofs only [go_sem, bleF])
  refine ifB'.of (fun h => ?_) (fun hs1 => ?_)
  · simp -dsimp -implicitDefEqProofs only [go_sem]
    exact sm_f (fun h' => by have := (fin.2 h').2.2.1; omega)
  simp -dsimp -implicitDefEqProofs only [go_sem]
  repeat (first | with_reducible refine ask.of (by omega) ?_ | simp -dsimp -implicitDefEqProofs only [go_sem, bleF])
  refine ifB'.of (fun hl => ?_) (fun hl => ?_)
  case refine_2 =>
    simp -dsimp -implicitDefEqProofs only [go_sem]
    exact sm_f (fun h' => by have := (fin.2 h').2.2.2.1; omega)
  have hl : x.ds.length = x.fs.length := by omega
  simp -dsimp -implicitDefEqProofs only [go_sem]
  repeat (first | with_reducible refine ask.of (by omega) ?_ | simp -dsimp -implicitDefEqProofs only [go_sem, bleF])
  refine LoopE.cnt x.ds.length (fun i s => s.env 1 = .ptr [1] 0 0 0 ∧ s.env 49 = .v (.int .i64 i) ∧ s.σ [1] = some (.box 39 [.v (.bool true), .rd .ent 101 3 (ra fdC x.fs), .v (.int .i64 x.s), .rd .ent 132 1 (ra bbC x.ds)]) ∧ (s.env 47 = .rd .ent 132 1 (ra bbC x.ds) ∧ s.env 48 = .v (.int .i64 x.ds.length)) ∧ ∀ j (h : j < x.ds.length), j < i → smAt x j h) ⟨by simp -dsimp -implicitDefEqProofs only [go_sem], by simp -dsimp -implicitDefEqProofs only [go_sem], by simp -dsimp -implicitDefEqProofs only [go_sem, ho], ⟨by simp -dsimp -implicitDefEqProofs only [go_sem], by simp -dsimp -implicitDefEqProofs only [go_sem]⟩, fun j _ h => absurd h (by omega)⟩ ?_
  rintro i ⟨e, σ⟩ hi ⟨e1, e3, hs, ⟨h47, h48⟩, ha⟩ K hK
  simp only at e1 e3 hs
  simp only at h47 h48
  simp -dsimp -implicitDefEqProofs only [go_sem, e1, e3, hs, h47, h48]
  repeat (first | with_reducible refine ask.of (by omega) ?_ | simp -dsimp -implicitDefEqProofs only [go_sem, e1, e3, hs, h47, h48, bleF])
  refine ifB'.of (fun hlt => ?_) (fun hlt => ?_)
  · have hlt : i < x.ds.length := by omega
    have hlf : i < x.fs.length := by omega
    simp -dsimp -implicitDefEqProofs only [go_sem, e1, e3, hs, h47, h48, bbA_at hlt]
    repeat (first | with_reducible refine ask.of (by omega) ?_ | simp -dsimp -implicitDefEqProofs only [go_sem, e1, e3, hs, h47, h48, bleF, bbA_at hlt])
    refine CallE.of (c_iValidDict x.ds[i] (h4 _ (List.getElem_mem _))) (by rintro r rfl; (repeat' first | exact trivial | exact pure_rowB _ | exact pure_rowO _ | exact pure_rowI _ | exact pure_rowBB _ | exact pure_rowPk _ _ | exact pure_rowSn _ _ | exact pure_rowFd _ _ | exact pure_rowBBB _ | exact pure_rowCl _ _ | exact pure_rowTb _ _ _ | refine And.intro ?_ ?_)) (by simp -dsimp -implicitDefEqProofs only [go_sem, e1, e3, hs, h47, h48]) ?_
    rintro r rfl
    simp -dsimp -implicitDefEqProofs only [go_sem, e1, e3, hs, h47, h48]
    by_cases hk : okD x.ds[i]
    case neg =>
      simp -dsimp -implicitDefEqProofs only [go_sem, e1, e3, hs, h47, h48, decide_eq_false hk, Bool.not_false]
      exact sm_f (fun h => hk ((fin.2 h).2.2.2.2 i hlt).1)
    simp -dsimp -implicitDefEqProofs only [go_sem, e1, e3, hs, h47, h48, decide_eq_true hk, Bool.not_true]
    repeat (first | with_reducible refine ask.of (by omega) ?_ | simp -dsimp -implicitDefEqProofs only [go_sem, e1, e3, hs, h47, h48, bleF, Fd_at hlf, fdC])
    refine ifB'.of (fun h3 => ?_) (fun h3 => ?_)
    · simp -dsimp -implicitDefEqProofs only [go_sem, e1, e3, hs, h47, h48]
      refine hK _ hlt ?_
      simp -dsimp -implicitDefEqProofs only [go_sem, e1, e3, hs, h47, h48, wrap_succ (show i < 4611686018427387904 by omega), ho]
      try refine ⟨⟨rfl, rfl⟩, ?_⟩
      try refine ⟨trivial, ?_⟩
      intro j hj hji
      by_cases hje : j = i
      · subst hje
        exact ⟨hk, hlf, .inl h3⟩
      · exact ha j hj (by omega)
    · simp -dsimp -implicitDefEqProofs only [go_sem, e1, e3, hs, h47, h48]
      repeat (first | with_reducible refine ask.of (by omega) ?_ | simp -dsimp -implicitDefEqProofs only [go_sem, e1, e3, hs, h47, h48, bleF, bbA_at hlt])
      refine ifB'.of (fun h5 => ?_) (fun h5 => ?_)
      · simp -dsimp -implicitDefEqProofs only [go_sem, e1, e3, hs, h47, h48]
        refine sm_f (fun h => ?_)
        obtain ⟨_, _, h6⟩ := (fin.2 h).2.2.2.2 i hlt
        rcases h6 with h6 | h6
        · exact h3 h6
        · omega
      · simp -dsimp -implicitDefEqProofs only [go_sem, e1, e3, hs, h47, h48]
        refine hK _ hlt ?_
        simp -dsimp -implicitDefEqProofs only [go_sem, e1, e3, hs, h47, h48, wrap_succ (show i < 4611686018427387904 by omega), ho]
        try refine ⟨⟨rfl, rfl⟩, ?_⟩
        try refine ⟨trivial, ?_⟩
        intro j hj hji
        by_cases hje : j = i
        · subst hje
          exact ⟨hk, hlf, .inr (by omega)⟩
        · exact ha j hj (by omega)
  · simp -dsimp -implicitDefEqProofs only [go_sem, e1, e3, hs, h47, h48]
    exact sm_t (fin.1 ⟨hF, by omega, by omega, hl, fun j hj => ha j hj (by omega)⟩)
end Go.Ev
set_option linter.unusedVariables false
namespace Go.Ev
open Go Go.RowKit
theorem CallV.ofE {P : Program} {f : FuncId} {args cs : List AV} {s : St} {d : Option Nat} {K : St → Prop} {all cargs ccs : List AV} {post : AV → Prop} (h : Meets P f all post) (hp : ∀ r, post r → r.pure)
    (ha : argsE P s false (parTys P f) args = some cargs) (hc : s.coeKL cs = some ccs) (he : cargs ++ ccs = all) (hk : ∀ r, post r → K (s.ret d r)) : CallV P f args cs s d K := by
  subst he
  exact CallV.of h hp ha hc hk
theorem tn0 : Int.toNat 0 = 0 := rfl
theorem tn1 : Int.toNat 1 = 1 := rfl
end Go.Ev
set_option linter.unusedSimpArgs false
set_option linter.unusedVariables false
namespace Go.Ev
open Go Go.RowKit Go.Proofs
structure Sn where
  p : Pk
  q : Int
def snC (s : Sn) : List AV := [.v (.int .i64 s.p.a), .v (.int .i64 s.p.b), .v (.int .i64 s.p.c), .v (.int .i64 s.p.d), .v (.bool s.p.e), .row 5 1 (bytesA s.p.f), .v (.int .i64 s.q)]
def snW (s : Sn) : Nat := s.p.f.length
def pk0 : Pk := ⟨0, 0, 0, 0, false, []⟩
def sn0 : Sn := ⟨pk0, 0⟩
def rowPk (T : Nat) (ps : List Pk) : AV := .row T 6 (ra pkC ps)
def rowSn (T : Nat) (ps : List Sn) : AV := .row T 7 (ra snC ps)
theorem pure_rowPk (T : Nat) (ps : List Pk) : (rowPk T ps).pure := pureEls_ra (enc := pkC) (fun x => ⟨trivial, trivial, trivial, trivial, trivial, pureEls_bytes _, trivial⟩) ps
theorem pure_rowSn (T : Nat) (ps : List Sn) : (rowSn T ps).pure := pureEls_ra (enc := snC) (fun x => ⟨trivial, trivial, trivial, trivial, trivial, pureEls_bytes _, trivial, trivial⟩) ps
theorem c_szSent (s : Sn) (left : Nat) (hb : s.p.f.length ≤ 140737488355328) (hl : left ≤ 1048576) : Meets Tryz.prog 102 [.agg (snC s), .v (.int .i64 left)] (fun r => r = .v (.int .i64 (szR left s.p.f.length))) := by
  refine Meets.intro mixed (hint []) Tryz.func102 rfl (by decide) res_102 rty_102 (by kernel_rfl) ?_; 
  simp -dsimp -implicitDefEqProofs only [go_sem, snC]
  repeat with_reducible refine ask.of (by omega) ?_
  simp -dsimp -implicitDefEqProofs only [go_sem, bleR, show Nat.ble 6 7 = true from rfl]
  refine CallE.of (c_szPacket s.p left hb hl) (by rintro r rfl; (repeat' first | exact trivial | exact pure_rowB _ | exact pure_rowO _ | exact pure_rowI _ | exact pure_rowBB _ | exact pure_rowPk _ _ | exact pure_rowSn _ _ | exact pure_rowFd _ _ | exact pure_rowBBB _ | exact pure_rowCl _ _ | exact pure_rowTb _ _ _ | refine And.intro ?_ ?_)) (by simp -dsimp -implicitDefEqProofs only [go_sem, pkC]) ?_
  rintro r rfl
  simp -dsimp -implicitDefEqProofs only [go_sem, pkC]
  refine ifB'.of (fun h => ?_) (fun h => ?_)
  · simp -dsimp -implicitDefEqProofs only [go_sem]
    by_cases h2 : s.p.f.length ≤ left
    · rw [szR_ok h2] at h; omega
    · rw [szR_no h2]
  · simp -dsimp -implicitDefEqProofs only [go_sem]
theorem c_toSent (s : Sn) (hb : s.p.f.length ≤ 1048576) : Meets Tryz.prog 113 [.agg (snC s)] (fun r => r = .agg (snC s)) := by
  refine Meets.intro mixed (hint []) Tryz.func113 rfl (by decide) res_113 rty_113 (by kernel_rfl) ?_; 
  simp -dsimp -implicitDefEqProofs only [go_sem, snC]
  repeat with_reducible refine ask.of (by omega) ?_
  simp -dsimp -implicitDefEqProofs only [go_sem, bleR, show Nat.ble 6 7 = true from rfl]
  refine CallE.of (c_toPacket s.p hb) (by rintro r rfl; (repeat' first | exact trivial | exact pure_rowB _ | exact pure_rowO _ | exact pure_rowI _ | exact pure_rowBB _ | exact pure_rowPk _ _ | exact pure_rowSn _ _ | exact pure_rowFd _ _ | exact pure_rowBBB _ | exact pure_rowCl _ _ | exact pure_rowTb _ _ _ | refine And.intro ?_ ?_)) (by simp -dsimp -implicitDefEqProofs only [go_sem, pkC]) ?_
  rintro r rfl
  simp -dsimp -implicitDefEqProofs only [go_sem, pkC]
  repeat with_reducible refine ask.of (by omega) ?_
  simp -dsimp -implicitDefEqProofs only [go_sem, bleR, show Nat.ble 6 7 = true from rfl]
theorem c_eqSent (s : Sn) (hb : s.p.f.length ≤ 1048576) : Meets Tryz.prog 130 [.agg (snC s), .agg (snC s)] (fun r => r = .v (.bool true)) := by
  refine Meets.intro mixed (hint []) Tryz.func130 rfl (by decide) res_130 rty_130 (by kernel_rfl) ?_; 
  simp -dsimp -implicitDefEqProofs only [go_sem, snC, decide_true]
  repeat (first | with_reducible refine ask.of (by omega) ?_ | simp -dsimp -implicitDefEqProofs only [go_sem, bleR, show Nat.ble 6 7 = true from rfl])
  refine CallE.of (c_eqPacket s.p hb) (by rintro r rfl; (repeat' first | exact trivial | exact pure_rowB _ | exact pure_rowO _ | exact pure_rowI _ | exact pure_rowBB _ | exact pure_rowPk _ _ | exact pure_rowSn _ _ | exact pure_rowFd _ _ | exact pure_rowBBB _ | exact pure_rowCl _ _ | exact pure_rowTb _ _ _ | refine And.intro ?_ ?_)) (by simp -dsimp -implicitDefEqProofs only [go_sem, pkC, Bool.not_true, decide_true]) ?_
  rintro r rfl
  simp -dsimp -implicitDefEqProofs only [go_sem, pkC, Bool.not_true, decide_true]
  repeat (first | with_reducible refine ask.of (by omega) ?_ | trivial)
theorem Sn_at {xs : List Sn} {i : Nat} (h : i < xs.length) : (ra snC xs)[i]? = some (snC xs[i]) := ra_at h
theorem c_szSentS (xs : List Sn) (left : Nat) (hl : left ≤ 1048576) (hx : xs.length ≤ 140737488355328) (hb : ∀ b ∈ xs, b.p.f.length ≤ 140737488355328) : Meets Tryz.prog 50 [rowSn 130 xs, .v (.int .i64 left)] (fun r => r = .v (.int .i64 (szR left (xs.length + szL snW xs)))) := by
  refine Meets.intro mixed (hint []) Tryz.func50 rfl (by decide) res_50 rty_50 (by kernel_rfl) ?_; 
  have e : IntKind.i64.wrap ((left : Int) - xs.length) = (left : Int) - xs.length := wrap_i64_of (by omega) (by omega)
  simp -dsimp -implicitDefEqProofs only [go_sem, e, rowSn]
  refine ifB'.of (fun h => ?_) (fun h => ?_)
  · simp -dsimp -implicitDefEqProofs only [go_sem]
    rw [szR_no (by omega)]
  simp -dsimp -implicitDefEqProofs only [go_sem, e]
  refine LoopE.cnt xs.length (fun i s => s.env 0 = .rd .ent 130 7 (ra snC xs) ∧ s.env 5 = .v (.int .i64 i) ∧ xs.length + szL snW (xs.take i) ≤ left ∧ s.env 1 = .v (.int .i64 ((left - (xs.length + szL snW (xs.take i)) : Nat) : Int))) ⟨by simp -dsimp -implicitDefEqProofs only [go_sem, initE, rowSn], by simp -dsimp -implicitDefEqProofs only [go_sem] <;> simp, by simp [szL]; omega, by simp -dsimp -implicitDefEqProofs only [go_sem] <;> (simp [szL]; omega)⟩ ?_
  rintro i ⟨e, σ⟩ hi ⟨h0, h5, hle, h1⟩ K hK
  simp only at h0 h5 h1
  simp -dsimp -implicitDefEqProofs only [go_sem, h0, h5, h1]
  refine ifB'.of (fun hlt => ?_) (fun hlt => ?_)
  · have hlt : i < xs.length := by omega
    have hs := szL_take_succ snW hlt
    have hw := szL_take_le snW xs (i + 1)
    have hww : snW xs[i] = xs[i].p.f.length := rfl
    simp -dsimp -implicitDefEqProofs only [go_sem, h0, h5, h1, Sn_at hlt, snC]
    repeat with_reducible refine ask.of (by omega) ?_
    simp -dsimp -implicitDefEqProofs only [go_sem, h0, h5, h1, Sn_at hlt, snC, bleR]
    refine CallE.of (c_szSent xs[i] (left - (xs.length + szL snW (xs.take i))) (hb _ (List.getElem_mem _)) (by omega)) (by rintro r rfl; (repeat' first | exact trivial | exact pure_rowB _ | exact pure_rowO _ | exact pure_rowI _ | exact pure_rowBB _ | exact pure_rowPk _ _ | exact pure_rowSn _ _ | exact pure_rowFd _ _ | exact pure_rowBBB _ | exact pure_rowCl _ _ | exact pure_rowTb _ _ _ | refine And.intro ?_ ?_)) (by simp -dsimp -implicitDefEqProofs only [go_sem, h0, h5, h1, snC]) ?_
    rintro r rfl
    simp -dsimp -implicitDefEqProofs only [go_sem, h0, h5, h1, snC]
    refine ifB'.of (fun hn => ?_) (fun hn => ?_)
    · have : ¬ xs[i].p.f.length ≤ left - (xs.length + szL snW (xs.take i)) := fun h => by rw [szR_ok h] at hn; omega
      simp -dsimp -implicitDefEqProofs only [go_sem, h0, h5, h1]
      rw [szR_no (by omega)]
    · have h : xs[i].p.f.length ≤ left - (xs.length + szL snW (xs.take i)) := Classical.byContradiction fun h => by rw [szR_no h] at hn; omega
      simp -dsimp -implicitDefEqProofs only [go_sem, h0, h5, h1]
      refine hK _ hlt ?_
      simp -dsimp -implicitDefEqProofs only [go_sem, h0, h5, h1, wrap_succ (show i < 4611686018427387904 by omega), szR_ok h, hs]
      exact ⟨by omega, by omega⟩
  · have : i = xs.length := by omega
    subst this
    simp -dsimp -implicitDefEqProofs only [go_sem, h0, h5, h1]
    rw [List.take_length] at hle ⊢
    rw [szR_ok (by omega)]
theorem Sn_set (xs : List Sn) (i : Nat) (x : Sn) : (ra snC xs).set i (snC x) = ra snC (xs.set i x) := ra_set xs i x
theorem c_toSentS (xs : List Sn) (hx : xs.length ≤ 1048576) (hb : ∀ b ∈ xs, b.p.f.length ≤ 1048576) : Meets Tryz.prog 64 [rowSn 130 xs] (fun r => r = rowSn 122 xs) := by
  refine Meets.intro mixed (hint []) Tryz.func64 rfl (by decide) res_64 rty_64 (by kernel_rfl) ?_; 
  simp -dsimp -implicitDefEqProofs only [go_sem, rowSn]
  refine ask.of (by omega) ?_
  refine LoopE.cnt xs.length (fun i s => s.env 0 = .rd .ent 130 7 (ra snC xs) ∧ s.env 3 = .ref [7] ∧ s.env 4 = .v (.int .i64 i) ∧ s.σ [7] = some (.row 122 7 (ra snC (xs.take i ++ List.replicate (xs.length - i) sn0)))) ⟨by simp -dsimp -implicitDefEqProofs only [go_sem, initE, rowSn], by simp -dsimp -implicitDefEqProofs only [go_sem], by simp -dsimp -implicitDefEqProofs only [go_sem] <;> simp, by simp -dsimp -implicitDefEqProofs only [go_sem] <;> simp [ra, snC, sn0, pk0, bytesA]⟩ ?_
  rintro i ⟨e, σ⟩ hi ⟨h0, h3, h4, hs⟩ K hK
  simp only at h0 h3 h4 hs
  simp -dsimp -implicitDefEqProofs only [go_sem, h0, h3, h4, hs]
  refine ifB'.of (fun hlt => ?_) (fun hlt => ?_)
  · have hlt : i < xs.length := by omega
    have hl : (List.take i xs ++ List.replicate (xs.length - i) sn0).length = xs.length := by simp; omega
    simp -dsimp -implicitDefEqProofs only [go_sem, h0, h3, h4, hs, Sn_at hlt, snC]
    repeat with_reducible refine ask.of (by omega) ?_
    simp -dsimp -implicitDefEqProofs only [go_sem, h0, h3, h4, hs, Sn_at hlt, snC, bleR]
    refine CallE.of (c_toSent xs[i] (hb _ (List.getElem_mem _))) (by rintro r rfl; (repeat' first | exact trivial | exact pure_rowB _ | exact pure_rowO _ | exact pure_rowI _ | exact pure_rowBB _ | exact pure_rowPk _ _ | exact pure_rowSn _ _ | exact pure_rowFd _ _ | exact pure_rowBBB _ | exact pure_rowCl _ _ | exact pure_rowTb _ _ _ | refine And.intro ?_ ?_)) (by simp -dsimp -implicitDefEqProofs only [go_sem, h0, h3, h4, hs, snC]) ?_
    rintro r rfl
    simp -dsimp -implicitDefEqProofs only [go_sem, h0, h3, h4, hs, snC]
    simp -dsimp -implicitDefEqProofs only [go_sem, h0, h3, h4, hs, hl]
    repeat with_reducible refine ask.of (by omega) ?_
    simp -dsimp -implicitDefEqProofs only [go_sem, h0, h3, h4, hs, Sn_at (show i < (List.take i xs ++ List.replicate (xs.length - i) sn0).length by omega), snC, bleR]
    refine hK _ hlt ?_
    simp -dsimp -implicitDefEqProofs only [go_sem, h0, h3, h4, hs, wrap_succ (show i < 4611686018427387904 by omega)]
    exact congrArg (fun l => some (OB.row _ 7 l)) ((Sn_set _ i xs[i]).trans (congrArg (ra snC) (fill_set xs sn0 hlt)))
  · have : i = xs.length := by omega
    subst this
    simp -dsimp -implicitDefEqProofs only [go_sem, h0, h3, h4, hs, rowSn]
    simp
theorem c_eqSentS (xs : List Sn) (hx : xs.length ≤ 1048576) (hb : ∀ b ∈ xs, b.p.f.length ≤ 1048576) : Meets Tryz.prog 80 [rowSn 122 xs, rowSn 122 xs] (fun r => r = .v (.bool true)) := by
  refine Meets.intro mixed (hint []) Tryz.func80 rfl (by decide) res_80 rty_80 (by kernel_rfl) ?_; 
  simp -dsimp -implicitDefEqProofs only [go_sem, decide_true, Bool.not_true, rowSn]
  refine LoopE.cnt xs.length (fun i s => s.env 0 = .rd .ent 122 7 (ra snC xs) ∧ s.env 1 = .rd .ent 122 7 (ra snC xs) ∧ s.env 5 = .v (.int .i64 i)) ⟨by simp -dsimp -implicitDefEqProofs only [go_sem, initE, rowSn], by simp -dsimp -implicitDefEqProofs only [go_sem, initE, rowSn], by simp -dsimp -implicitDefEqProofs only [go_sem] <;> simp⟩ ?_
  rintro i ⟨e, σ⟩ hi ⟨h0, h1, h5⟩ K hK
  simp only at h0 h1 h5
  simp -dsimp -implicitDefEqProofs only [go_sem, h0, h1, h5]
  refine ifB'.of (fun hlt => ?_) (fun hlt => ?_)
  · have hlt : i < xs.length := by omega
    simp -dsimp -implicitDefEqProofs only [go_sem, h0, h1, h5, Sn_at hlt, snC]
    repeat (first | with_reducible refine ask.of (by omega) ?_ | simp -dsimp -implicitDefEqProofs only [go_sem, h0, h1, h5, Sn_at hlt, snC, bleR])
    refine CallE.of (c_eqSent xs[i] (hb _ (List.getElem_mem _))) (by rintro r rfl; (repeat' first | exact trivial | exact pure_rowB _ | exact pure_rowO _ | exact pure_rowI _ | exact pure_rowBB _ | exact pure_rowPk _ _ | exact pure_rowSn _ _ | exact pure_rowFd _ _ | exact pure_rowBBB _ | exact pure_rowCl _ _ | exact pure_rowTb _ _ _ | refine And.intro ?_ ?_)) (by simp -dsimp -implicitDefEqProofs only [go_sem, h0, h1, h5, Bool.not_true, snC]) ?_
    rintro r rfl
    simp -dsimp -implicitDefEqProofs only [go_sem, h0, h1, h5, Bool.not_true, snC]
    refine hK _ hlt ?_
    simp -dsimp -implicitDefEqProofs only [go_sem, h0, h1, h5, wrap_succ (show i < 4611686018427387904 by omega)]
  · simp -dsimp -implicitDefEqProofs only [go_sem, h0, h1, h5]
end Go.Ev
set_option linter.unusedSimpArgs false
set_option linter.unusedVariables false
namespace Go.Ev
open Go Go.RowKit Go.Proofs
structure LO where
  a : Int
  b : Int
  c : Int
  h : List Sn
def loC (T : Nat) (x : LO) : List AV := [.v (.int .i64 x.a), .v (.int .i64 x.b), .v (.int .i64 x.c), .row T 7 (ra snC x.h)]
def loW (x : LO) : Nat := x.h.length + szL snW x.h
theorem c_szLinkOut (x : LO) (left : Nat) (hl : left ≤ 1048576) (hx : x.h.length ≤ 140737488355328) (hb : ∀ b ∈ x.h, b.p.f.length ≤ 140737488355328) : Meets Tryz.prog 19 [.agg (loC 130 x), .v (.int .i64 left)] (fun r => r = .v (.int .i64 (szR left (loW x)))) := by
  refine Meets.intro mixed (hint []) Tryz.func19 rfl (by decide) res_19 rty_19 (by kernel_rfl) ?_; 
  simp -dsimp -implicitDefEqProofs only [go_sem, loC]
  repeat (first | with_reducible refine ask.of (by omega) ?_ | simp -dsimp -implicitDefEqProofs only [go_sem, bleR])
  refine CallE.of (c_szSentS x.h left hl hx hb) (by rintro r rfl; (repeat' first | exact trivial | exact pure_rowB _ | exact pure_rowO _ | exact pure_rowI _ | exact pure_rowBB _ | exact pure_rowPk _ _ | exact pure_rowSn _ _ | exact pure_rowFd _ _ | exact pure_rowBBB _ | exact pure_rowCl _ _ | exact pure_rowTb _ _ _ | refine And.intro ?_ ?_)) (by simp -dsimp -implicitDefEqProofs only [go_sem, rowSn]) ?_
  rintro r rfl
  simp -dsimp -implicitDefEqProofs only [go_sem, rowSn]
  by_cases h2 : x.h.length + szL snW x.h ≤ left
  · rw [szR_ok h2]
    refine ifB'.of (fun h => by omega) (fun h => ?_)
    simp -dsimp -implicitDefEqProofs only [go_sem]
    rw [szR_ok (by unfold loW; omega), loW]
  · rw [szR_no h2]
    simp -dsimp -implicitDefEqProofs only [go_sem, show decide ((-1 : Int) < 0) = true from rfl]
    rw [szR_no (by unfold loW; omega)]
theorem c_toLinkOut (x : LO) (hx : x.h.length ≤ 1048576) (hb : ∀ b ∈ x.h, b.p.f.length ≤ 1048576) : Meets Tryz.prog 26 [.agg (loC 130 x)] (fun r => r = .agg (loC 122 x)) := by
  refine Meets.intro mixed (hint []) Tryz.func26 rfl (by decide) res_26 rty_26 (by kernel_rfl) ?_; 
  simp -dsimp -implicitDefEqProofs only [go_sem, loC]
  repeat (first | with_reducible refine ask.of (by omega) ?_ | simp -dsimp -implicitDefEqProofs only [go_sem, bleR])
  refine CallE.of (c_toSentS x.h hx hb) (by rintro r rfl; (repeat' first | exact trivial | exact pure_rowB _ | exact pure_rowO _ | exact pure_rowI _ | exact pure_rowBB _ | exact pure_rowPk _ _ | exact pure_rowSn _ _ | exact pure_rowFd _ _ | exact pure_rowBBB _ | exact pure_rowCl _ _ | exact pure_rowTb _ _ _ | refine And.intro ?_ ?_)) (by simp -dsimp -implicitDefEqProofs only [go_sem, rowSn]) ?_
  rintro r rfl
  simp -dsimp -implicitDefEqProofs only [go_sem, rowSn]
  repeat (first | with_reducible refine ask.of (by omega) ?_ | simp -dsimp -implicitDefEqProofs only [go_sem, bleR])
theorem c_eqLinkOut (x : LO) (hx : x.h.length ≤ 1048576) (hb : ∀ b ∈ x.h, b.p.f.length ≤ 1048576) : Meets Tryz.prog 33 [.agg (loC 122 x), .agg (loC 122 x)] (fun r => r = .v (.bool true)) := by
  refine Meets.intro mixed (hint []) Tryz.func33 rfl (by decide) res_33 rty_33 (by kernel_rfl) ?_; 
  simp -dsimp -implicitDefEqProofs only [go_sem, loC, decide_true]
  repeat (first | with_reducible refine ask.of (by omega) ?_ | simp -dsimp -implicitDefEqProofs only [go_sem, bleR, decide_true])
  refine CallE.of (c_eqSentS x.h hx hb) (by rintro r rfl; (repeat' first | exact trivial | exact pure_rowB _ | exact pure_rowO _ | exact pure_rowI _ | exact pure_rowBB _ | exact pure_rowPk _ _ | exact pure_rowSn _ _ | exact pure_rowFd _ _ | exact pure_rowBBB _ | exact pure_rowCl _ _ | exact pure_rowTb _ _ _ | refine And.intro ?_ ?_)) (by simp -dsimp -implicitDefEqProofs only [go_sem, rowSn, Bool.not_true]) ?_
  rintro r rfl
  simp -dsimp -implicitDefEqProofs only [go_sem, rowSn, Bool.not_true]
def loAt (x : LO) (i : Nat) (h : i < x.h.length) : Prop := okPk x.h[i].p ∧ x.h[i].p.a = 1 ∧ x.h[i].p.b = x.a ∧ x.h[i].p.c = x.b - x.h.length + i ∧ -1 ≤ x.h[i].q ∧ x.h[i].q ≤ x.c
def okLO (x : LO) : Prop := (1 ≤ x.a ∧ x.a ≤ 1000000000 ∧ 0 ≤ x.b ∧ x.b ≤ 1000000000000 ∧ 0 ≤ x.c ∧ x.c ≤ 1000000000 ∧ x.h.length ≤ 300) ∧ ∀ i (h : i < x.h.length), loAt x i h
noncomputable def loB (x : LO) : Bool := @decide (okLO x) (Classical.propDecidable _)
theorem lo_f {x : LO} (h : ¬ okLO x) : false = loB x := (@decide_eq_false _ (Classical.propDecidable _) h).symm
theorem lo_t {x : LO} (h : okLO x) : true = loB x := (@decide_eq_true _ (Classical.propDecidable _) h).symm
set_option maxRecDepth 4000 in
theorem c_specValidOut (x : LO) (hx : x.h.length ≤ 1048576) (hb : ∀ b ∈ x.h, b.p.f.length ≤ 1048576) : Meets Tryz.prog 53 [.agg (loC 122 x)] (fun r => r = .v (.bool (loB x))) := by
  refine Meets.intro mixed (hint []) Tryz.func53 rfl (by decide) res_53 rty_53 (by kernel_rfl) ?_; 
  simp -dsimp -implicitDefEqProofs only [go_sem, loC, decide_true]
  repeat' (first | with_reducible refine ifB'.of (fun h => ?_) (fun h => ?_) | with_reducible refine ask.of (by omega) ?_ | ((with_reducible refine lo_f ?_); exact fun (hh : okLO x) => by { have := hh.1; omega }) | simp -dsimp -implicitDefEqProofs only [go_sem, decide_true, bleR])
  refine LoopE.cnt x.h.length (fun i s => s.env 1 = .ptr [1] 0 0 0 ∧ s.env 3 = .v (.int .i64 i) ∧ s.σ [1] = some (.box 37 [.v (.int .i64 x.a), .v (.int .i64 x.b), .v (.int .i64 x.c), .rd .ent 122 7 (ra snC x.h)]) ∧ ∀ j (hj : j < x.h.length), j < i → loAt x j hj) ⟨by simp -dsimp -implicitDefEqProofs only [go_sem], by simp -dsimp -implicitDefEqProofs only [go_sem] <;> simp, by simp -dsimp -implicitDefEqProofs only [go_sem], fun j hj h => absurd h (by omega)⟩ ?_
  rintro i ⟨e, σ⟩ hi ⟨h1, h3, hs, hz⟩ K hK
  simp only at h1 h3 hs
  repeat (first | with_reducible refine ask.of (by omega) ?_ | simp -dsimp -implicitDefEqProofs only [go_sem, h1, h3, hs, bleR])
  refine ifB'.of (fun hlt => ?_) (fun hlt => ?_)
  · have hlt : i < x.h.length := by omega
    repeat (first | with_reducible refine ask.of (by omega) ?_ | simp -dsimp -implicitDefEqProofs only [go_sem, h1, h3, hs, bleR, Sn_at hlt, snC, show Nat.ble 6 7 = true from rfl])
    refine CallE.of (c_l5valid x.h[i].p (hb _ (List.getElem_mem _))) (by rintro r rfl; (repeat' first | exact trivial | exact pure_rowB _ | exact pure_rowO _ | exact pure_rowI _ | exact pure_rowBB _ | exact pure_rowPk _ _ | exact pure_rowSn _ _ | exact pure_rowFd _ _ | exact pure_rowBBB _ | exact pure_rowCl _ _ | exact pure_rowTb _ _ _ | refine And.intro ?_ ?_)) (by simp -dsimp -implicitDefEqProofs only [go_sem, h1, h3, hs, pkC]) ?_
    rintro r rfl
    simp -dsimp -implicitDefEqProofs only [go_sem, h1, h3, hs, pkC]
    have e9 : IntKind.i64.wrap (x.b - (x.h.length : Int)) = x.b - (x.h.length : Int) := wrap_i64_of (by omega) (by omega)
    have e8 : IntKind.i64.wrap (x.b - (x.h.length : Int) + (i : Int)) = x.b - (x.h.length : Int) + (i : Int) := wrap_i64_of (by omega) (by omega)
    cases h5 : okB x.h[i].p
    · repeat (first | with_reducible refine ask.of (by omega) ?_ | simp -dsimp -implicitDefEqProofs only [go_sem, h1, h3, hs, h5, Bool.not_false])
      exact lo_f fun (hh : okLO x) => by
        rw [okB, decide_eq_true (hh.2 i hlt).1] at h5
        cases h5
    · have h6 : okPk x.h[i].p := by simpa [okB] using h5
      repeat' (first | with_reducible refine ifB'.of (fun h => ?_) (fun h => ?_) | with_reducible refine ask.of (by omega) ?_ | ((with_reducible refine lo_f ?_); exact fun (hh : okLO x) => by { have h7 := (hh.2 i hlt).2; omega }) | simp -dsimp -implicitDefEqProofs only [go_sem, h1, h3, hs, h5, Bool.not_true, e9, e8])
      refine hK _ hlt ?_
      simp -dsimp -implicitDefEqProofs only [go_sem, h1, h3, hs, wrap_succ (show i < 4611686018427387904 by omega)]
      exact fun j hj hjt => by
        by_cases hji : j = i
        · subst hji; exact ⟨h6, by omega, by omega, by omega, by omega, by omega⟩
        · exact hz j hj (by omega)
  · have hi : i = x.h.length := by omega
    simp -dsimp -implicitDefEqProofs only [go_sem, h1, h3, hs]
    exact lo_t ⟨by omega, fun j hj => hz j hj (by omega)⟩
set_option maxRecDepth 4000 in
theorem c_implValidOut (x : LO) (hx : x.h.length ≤ 1048576) (hb : ∀ b ∈ x.h, b.p.f.length ≤ 1048576) : Meets Tryz.prog 67 [.agg (loC 122 x)] (fun r => r = .v (.bool (loB x))) := by
  refine Meets.intro mixed (hint []) Tryz.func67 rfl (by decide) res_67 rty_67 (by kernel_rfl) ?_; 
  simp -dsimp -implicitDefEqProofs only [go_sem, loC, decide_true]
  repeat' (first | with_reducible refine ifB'.of (fun h => ?_) (fun h => ?_) | with_reducible refine ask.of (by omega) ?_ | ((with_reducible refine lo_f ?_); exact fun (hh : okLO x) => by { have := hh.1; omega }) | simp -dsimp -implicitDefEqProofs only [go_sem, decide_true, bleR])
  refine LoopE.cnt x.h.length (fun i s => s.env 1 = .ptr [1] 0 0 0 ∧ s.env 3 = .v (.int .i64 x.h.length) ∧ s.env 43 = .rd .ent 122 7 (ra snC x.h) ∧ s.env 44 = .v (.int .i64 x.h.length) ∧ s.env 45 = .v (.int .i64 i) ∧ s.σ [1] = some (.box 37 [.v (.int .i64 x.a), .v (.int .i64 x.b), .v (.int .i64 x.c), .rd .ent 122 7 (ra snC x.h)]) ∧ ∀ j (hj : j < x.h.length), j < i → loAt x j hj) ⟨by simp -dsimp -implicitDefEqProofs only [go_sem], by simp -dsimp -implicitDefEqProofs only [go_sem], by simp -dsimp -implicitDefEqProofs only [go_sem], by simp -dsimp -implicitDefEqProofs only [go_sem], by simp -dsimp -implicitDefEqProofs only [go_sem] <;> simp, by simp -dsimp -implicitDefEqProofs only [go_sem], fun j hj h => absurd h (by omega)⟩ ?_
  rintro i ⟨e, σ⟩ hi ⟨h1, h3, h43, h44, h45, hs, hz⟩ K hK
  simp only at h1 h3 h43 h44 h45 hs
  simp -dsimp -implicitDefEqProofs only [go_sem, h1, h3, h43, h44, h45, hs]
  refine ifB'.of (fun hlt => ?_) (fun hlt => ?_)
  · have hlt : i < x.h.length := by omega
    repeat (first | with_reducible refine ask.of (by omega) ?_ | simp -dsimp -implicitDefEqProofs only [go_sem, h1, h3, h43, h44, h45, hs, bleR, Sn_at hlt, snC, show Nat.ble 6 7 = true from rfl])
    refine CallE.of (c_packetOk x.h[i].p (hb _ (List.getElem_mem _))) (by rintro r rfl; (repeat' first | exact trivial | exact pure_rowB _ | exact pure_rowO _ | exact pure_rowI _ | exact pure_rowBB _ | exact pure_rowPk _ _ | exact pure_rowSn _ _ | exact pure_rowFd _ _ | exact pure_rowBBB _ | exact pure_rowCl _ _ | exact pure_rowTb _ _ _ | refine And.intro ?_ ?_)) (by simp -dsimp -implicitDefEqProofs only [go_sem, h1, h3, h43, h44, h45, hs, pkC]) ?_
    rintro r rfl
    simp -dsimp -implicitDefEqProofs only [go_sem, h1, h3, h43, h44, h45, hs, pkC]
    have e9 : IntKind.i64.wrap (x.b - (x.h.length : Int)) = x.b - (x.h.length : Int) := wrap_i64_of (by omega) (by omega)
    have e8 : IntKind.i64.wrap (x.b - (x.h.length : Int) + (i : Int)) = x.b - (x.h.length : Int) + (i : Int) := wrap_i64_of (by omega) (by omega)
    cases h5 : okB x.h[i].p
    · repeat (first | with_reducible refine ask.of (by omega) ?_ | simp -dsimp -implicitDefEqProofs only [go_sem, h1, h3, h43, h44, h45, hs, h5, Bool.not_false])
      exact lo_f fun (hh : okLO x) => by
        rw [okB, decide_eq_true (hh.2 i hlt).1] at h5
        cases h5
    · have h6 : okPk x.h[i].p := by simpa [okB] using h5
      repeat' (first | with_reducible refine ifB'.of (fun h => ?_) (fun h => ?_) | with_reducible refine ask.of (by omega) ?_ | ((with_reducible refine lo_f ?_); exact fun (hh : okLO x) => by { have h7 := (hh.2 i hlt).2; omega }) | simp -dsimp -implicitDefEqProofs only [go_sem, h1, h3, h43, h44, h45, hs, h5, Bool.not_true, e9, e8])
      refine hK _ hlt ?_
      simp -dsimp -implicitDefEqProofs only [go_sem, h1, h3, h43, h44, h45, hs, wrap_succ (show i < 4611686018427387904 by omega)]
      exact fun j hj hjt => by
        by_cases hji : j = i
        · subst hji; exact ⟨h6, by omega, by omega, by omega, by omega, by omega⟩
        · exact hz j hj (by omega)
  · have hi : i = x.h.length := by omega
    simp -dsimp -implicitDefEqProofs only [go_sem, h1, h3, h43, h44, h45, hs]
    exact lo_t ⟨by omega, fun j hj => hz j hj (by omega)⟩
end Go.Ev
set_option linter.unusedSimpArgs false
set_option linter.unusedVariables false
namespace Go.Ev
open Go Go.RowKit Go.Proofs
def tsOk (fs : List Fd) (xs : List Tb) : Prop := xs.length ≤ 20 ∧ ∀ t ∈ xs, okT fs t.r t.c
noncomputable def tsB (fs : List Fd) (xs : List Tb) : Bool := @decide (tsOk fs xs) (Classical.propDecidable _)
theorem ts_f {fs : List Fd} {xs : List Tb} (h : ¬ tsOk fs xs) : false = tsB fs xs := (@decide_eq_false _ (Classical.propDecidable _) h).symm
theorem ts_t {fs : List Fd} {xs : List Tb} (h : tsOk fs xs) : true = tsB fs xs := (@decide_eq_true _ (Classical.propDecidable _) h).symm
theorem tsB_t {fs : List Fd} {xs : List Tb} (h : tsB fs xs = true) : tsOk fs xs := of_decide_eq_true (inst := Classical.propDecidable _) h
theorem tbB_t {fs : List Fd} {r : Int} {xs : List Cl} (h : tbB fs r xs = true) : okT fs r xs := of_decide_eq_true (inst := Classical.propDecidable _) h
theorem tbB_f {fs : List Fd} {r : Int} {xs : List Cl} (h : tbB fs r xs = false) : ¬ okT fs r xs := of_decide_eq_false (inst := Classical.propDecidable _) h
def tbGood (t : Tb) : Prop := t.c.length + szL clW t.c ≤ 1048576 ∧ ∀ c ∈ t.c, i64r c.i
set_option maxRecDepth 8000 in
theorem c_tablesOK (fs : List Fd) (xs : List Tb) (hf : fs.length ≤ 1048576) (hfb : ∀ b ∈ fs, b.f.length ≤ 1048576) (hx : xs.length ≤ 1048576) (hg : ∀ t ∈ xs, tbGood t) : Meets Tryz.prog 54 [rowFd 101 fs, rowTb 105 149 xs] (fun r => r = .v (.bool (tsB fs xs))) := by
  refine Meets.intro mixed (hint []) Tryz.func54 rfl (by decide) res_54 rty_54 (by kernel_rfl) ?_; 
  simp -dsimp -implicitDefEqProofs only [go_sem, rowFd, rowTb]
  refine ifB'.of (fun h => ?_) (fun h => ?_)
  · simp -dsimp -implicitDefEqProofs only [go_sem]
    exact ts_f fun hh => by have := hh.1; omega
  simp -dsimp -implicitDefEqProofs only [go_sem]
  refine LoopE.cnt xs.length (fun i s => s.env 0 = .rd .ent 101 3 (ra fdC fs) ∧ s.env 1 = .rd .ent 105 2 (ra (tbC 149) xs) ∧ s.env 5 = .v (.int .i64 i) ∧ ∀ t ∈ xs.take i, okT fs t.r t.c) ⟨by simp -dsimp -implicitDefEqProofs only [go_sem, initE, rowFd], by simp -dsimp -implicitDefEqProofs only [go_sem, initE, rowTb], by simp -dsimp -implicitDefEqProofs only [go_sem] <;> rfl, by simp⟩ ?_
  rintro i ⟨e, σ⟩ hi ⟨h0, h1, h5, hall⟩ K hK
  simp only at h0 h1 h5
  simp -dsimp -implicitDefEqProofs only [go_sem, h0, h1, h5]
  refine ifB'.of (fun hlt => ?_) (fun hlt => ?_)
  · have hlt : i < xs.length := by omega
    have hgi := hg _ (List.getElem_mem hlt)
    repeat (first | with_reducible refine ask.of (by first | omega | decide) ?_ | simp -dsimp -implicitDefEqProofs only [go_sem, h0, h1, h5, tbA_at hlt, bl22])
    refine CallE.of (c_sValidTable fs xs[i].r xs[i].c hf hfb hgi.1) (by rintro r rfl; (repeat' first | exact trivial | exact pure_rowB _ | exact pure_rowO _ | exact pure_rowI _ | exact pure_rowBB _ | exact pure_rowPk _ _ | exact pure_rowSn _ _ | exact pure_rowFd _ _ | exact pure_rowBBB _ | exact pure_rowCl _ _ | exact pure_rowTb _ _ _ | refine And.intro ?_ ?_)) (by simp -dsimp -implicitDefEqProofs only [go_sem, h0, h1, h5, tbC, rowFd]) ?_
    rintro r rfl
    simp -dsimp -implicitDefEqProofs only [go_sem, h0, h1, h5, tbC, rowFd]
    cases hv : tbB fs xs[i].r xs[i].c
    · simp -dsimp -implicitDefEqProofs only [go_sem, h0, h1, h5, Bool.not_false]
      exact ts_f fun hh => tbB_f hv (hh.2 _ (List.getElem_mem hlt))
    · simp -dsimp -implicitDefEqProofs only [go_sem, h0, h1, h5, Bool.not_true]
      refine hK _ hlt ?_
      simp -dsimp -implicitDefEqProofs only [go_sem, h0, h1, h5, wrap_succ (show i < 4611686018427387904 by omega)]
      intro t ht
      rw [List.take_succ_eq_append_getElem hlt] at ht
      rcases List.mem_append.1 ht with ht | ht
      · exact hall t ht
      · rw [List.mem_singleton.1 ht]; exact tbB_t hv
  · have : i = xs.length := by omega
    subst this
    rw [List.take_length] at hall
    simp -dsimp -implicitDefEqProofs only [go_sem, h0, h1, h5]
    exact ts_t ⟨by omega, hall⟩
set_option maxRecDepth 8000 in
theorem c_indexFuncT (g T : Nat) (cs : List AV) (p : Tb → Bool) (xs : List Tb) (hx : xs.length ≤ 1048576) (hM : ∀ t ∈ xs, Meets Tryz.prog g [.agg (tbC 149 t), .bx T cs] (fun r => r = .v (.bool (p t)))) (hp : parTys Tryz.prog g = [105]) :
    Meets Tryz.prog 117 [rowTb 105 149 xs, .fn g [.bx T cs]] (fun r => ∃ k : Int, r = .v (.int .i64 k) ∧ (0 ≤ k ↔ ∃ t ∈ xs, p t = true)) := by
  refine Meets.intro mixed (hint []) Tryz.func117 rfl (by decide) res_117 rty_117 (by kernel_rfl) ?_; 
  simp -dsimp -implicitDefEqProofs only [go_sem, rowTb]
  refine LoopE.cnt xs.length (fun i s => s.env 0 = .rd .ent 105 2 (ra (tbC 149) xs) ∧ s.env 1 = .fn g [.rp .ent T cs.length [cs] 0 0] ∧ s.env 7 = .v (.int .i64 xs.length) ∧ s.env 8 = .v (.int .i64 i) ∧ ∀ t ∈ xs.take i, p t = false) ⟨by simp -dsimp -implicitDefEqProofs only [go_sem, initE, rowTb], by simp -dsimp -implicitDefEqProofs only [go_sem, initE], by simp -dsimp -implicitDefEqProofs only [go_sem], by simp -dsimp -implicitDefEqProofs only [go_sem] <;> rfl, by simp⟩ ?_
  rintro i ⟨e, σ⟩ hi ⟨h0, h1, h7, h8, hall⟩ K hK
  simp only at h0 h1 h7 h8
  simp -dsimp -implicitDefEqProofs only [go_sem, h0, h1, h7, h8]
  refine ifB'.of (fun hlt => ?_) (fun hlt => ?_)
  · have hlt : i < xs.length := by omega
    repeat (first | with_reducible refine ask.of (by first | omega | decide) ?_ | simp -dsimp -implicitDefEqProofs only [go_sem, h0, h1, h7, h8, tbA_at hlt, bl22])
    refine CallV.ofE (hM xs[i] (List.getElem_mem hlt)) (by rintro r rfl; (repeat' first | exact trivial | exact pure_rowB _ | exact pure_rowO _ | exact pure_rowI _ | exact pure_rowBB _ | exact pure_rowPk _ _ | exact pure_rowSn _ _ | exact pure_rowFd _ _ | exact pure_rowBBB _ | exact pure_rowCl _ _ | exact pure_rowTb _ _ _ | refine And.intro ?_ ?_)) (by first | (simp -dsimp -implicitDefEqProofs only [go_sem, h0, h1, h7, h8, tbC, hp]; done) | (simp -dsimp -implicitDefEqProofs only [go_sem, h0, h1, h7, h8, tbC, hp]; rfl)) (by first | (simp -dsimp -implicitDefEqProofs only [go_sem, h0, h1, h7, h8, tbC, hp]; done) | (simp -dsimp -implicitDefEqProofs only [go_sem, h0, h1, h7, h8, tbC, hp]; rfl)) (by first | rfl | (simp -dsimp -implicitDefEqProofs only [go_sem, h0, h1, h7, h8, tbC, hp]; done)) ?_
    rintro r rfl
    simp -dsimp -implicitDefEqProofs only [go_sem, h0, h1, h7, h8, tbC, hp]
    cases hv : p xs[i]
    · simp -dsimp -implicitDefEqProofs only [go_sem, h0, h1, h7, h8]
      refine hK _ hlt ?_
      simp -dsimp -implicitDefEqProofs only [go_sem, h0, h1, h7, h8, wrap_succ (show i < 4611686018427387904 by omega)]
      intro t ht
      rw [List.take_succ_eq_append_getElem hlt] at ht
      rcases List.mem_append.1 ht with ht | ht
      · exact hall t ht
      · rw [List.mem_singleton.1 ht]; exact hv
    · simp -dsimp -implicitDefEqProofs only [go_sem, h0, h1, h7, h8]
      exact ⟨_, rfl, ⟨fun _ => ⟨_, List.getElem_mem hlt, hv⟩, fun _ => by omega⟩⟩
  · have : i = xs.length := by omega
    subst this
    rw [List.take_length] at hall
    simp -dsimp -implicitDefEqProofs only [go_sem, h0, h1, h7, h8]
    exact ⟨_, rfl, ⟨fun h => absurd h (by decide), fun ⟨t, ht, hv⟩ => by rw [hall t ht] at hv; cases hv⟩⟩
theorem c_containsFuncT (g T : Nat) (cs : List AV) (p : Tb → Bool) (xs : List Tb) (hx : xs.length ≤ 1048576) (hM : ∀ t ∈ xs, Meets Tryz.prog g [.agg (tbC 149 t), .bx T cs] (fun r => r = .v (.bool (p t)))) (hp : parTys Tryz.prog g = [105]) :
    Meets Tryz.prog 68 [rowTb 105 149 xs, .fn g [.bx T cs]] (fun r => r = .v (.bool (xs.any p))) := by
  refine Meets.intro mixed (hint []) Tryz.func68 rfl (by decide) res_68 rty_68 (by kernel_rfl) ?_; 
  simp -dsimp -implicitDefEqProofs only [go_sem, rowTb]
  refine CallE.of (c_indexFuncT g T cs p xs hx hM hp) (by rintro r ⟨k, rfl, _⟩; trivial) (by simp -dsimp -implicitDefEqProofs only [go_sem, rowTb]) ?_
  rintro r ⟨k, rfl, hk⟩
  simp -dsimp -implicitDefEqProofs only [go_sem]
  have e : decide (0 ≤ k) = xs.any p := by
    cases ha : xs.any p with
    | true => exact decide_eq_true (hk.2 (List.any_eq_true.1 ha))
    | false => exact decide_eq_false fun h => by rw [List.any_eq_true.2 (hk.1 h)] at ha; cases ha
  exact e
def fdSame (a b : Fd) : Bool := decide (a.f = b.f ∧ a.k = b.k ∧ a.w = b.w)
theorem fdSame_iff (a b : Fd) : (a.f = b.f ∧ a.k = b.k ∧ a.w = b.w) ↔ a = b := by
  cases a; cases b; simp
set_option maxRecDepth 8000 in
theorem c_sameFn (a b : Fd) (ha : a.f.length ≤ 1048576) (hb : b.f.length ≤ 1048576) : Meets Tryz.prog 122 [.agg (fdC a), .agg (fdC b)] (fun r => r = .v (.bool (fdSame a b))) := by
  refine Meets.intro mixed (hint []) Tryz.func122 rfl (by decide) res_122 rty_122 (by kernel_rfl) ?_; 
  simp -dsimp -implicitDefEqProofs only [go_sem, fdC]
  repeat (first | with_reducible refine ask.of (by first | omega | decide) ?_ | simp -dsimp -implicitDefEqProofs only [go_sem, bl3])
  refine CallE.of (c_bytesEqual a.f b.f (by omega) (by omega)) (by rintro r rfl; (repeat' first | exact trivial | exact pure_rowB _ | exact pure_rowO _ | exact pure_rowI _ | exact pure_rowBB _ | exact pure_rowPk _ _ | exact pure_rowSn _ _ | exact pure_rowFd _ _ | exact pure_rowBBB _ | exact pure_rowCl _ _ | exact pure_rowTb _ _ _ | refine And.intro ?_ ?_)) (by simp -dsimp -implicitDefEqProofs only [go_sem]) ?_
  rintro r rfl
  simp -dsimp -implicitDefEqProofs only [go_sem]
  repeat' (first | with_reducible refine ifB'.of (fun h => ?_) (fun h => ?_) | with_reducible refine ask.of (by first | omega | decide) ?_ | simp -dsimp -implicitDefEqProofs only [go_sem, bl3])
  all_goals (first | exact decide_eq_decide.2 ⟨fun q => ⟨by assumption, by assumption, q⟩, fun q => q.2.2⟩ | exact (decide_eq_false fun q => absurd q.2.1 (by assumption)).symm | exact (decide_eq_false fun q => absurd q.1 (by assumption)).symm)
theorem take_same {α : Type} {xs ys : List α} {i : Nat} (h : xs.take i = ys.take i) (hx : i < xs.length) (hy : i < ys.length) (he : xs[i] = ys[i]) : xs.take (i + 1) = ys.take (i + 1) := by
  rw [List.take_succ_eq_append_getElem hx, List.take_succ_eq_append_getElem hy, h, he]
theorem fdSame_t {a b : Fd} (h : fdSame a b = true) : a = b := (fdSame_iff a b).1 (of_decide_eq_true h)
theorem fdSame_f {a b : Fd} (h : fdSame a b = false) : a ≠ b := fun e => of_decide_eq_false h ((fdSame_iff a b).2 e)
noncomputable def fdsB (xs ys : List Fd) : Bool := @decide (xs = ys) (Classical.propDecidable _)
theorem fds_t {xs ys : List Fd} (h : xs = ys) : true = fdsB xs ys := (@decide_eq_true _ (Classical.propDecidable _) h).symm
theorem fds_f {xs ys : List Fd} (h : ¬ xs = ys) : false = fdsB xs ys := (@decide_eq_false _ (Classical.propDecidable _) h).symm
theorem fdsB_t {xs ys : List Fd} (h : fdsB xs ys = true) : xs = ys := of_decide_eq_true (inst := Classical.propDecidable _) h
theorem at_ne {α : Type} {xs ys : List α} {i : Nat} (hx : i < xs.length) (hy : i < ys.length) (h : xs[i] ≠ ys[i]) : ¬ xs = ys := fun e => h (by subst e; rfl)
set_option maxRecDepth 8000 in
theorem c_equalFuncFd (xs ys : List Fd) (hx : xs.length ≤ 1048576) (hy : ys.length ≤ 1048576) (hxb : ∀ b ∈ xs, b.f.length ≤ 1048576) (hyb : ∀ b ∈ ys, b.f.length ≤ 1048576) :
    Meets Tryz.prog 121 [rowFd 101 xs, rowFd 101 ys, .v (.func (.func 122) #[] #[])] (fun r => r = .v (.bool (fdsB xs ys))) := by
  have hp : parTys Tryz.prog 122 = [101, 101] := by kernel_rfl
  refine Meets.intro mixed (hint []) Tryz.func121 rfl (by decide) res_121 rty_121 (by kernel_rfl) ?_; 
  simp -dsimp -implicitDefEqProofs only [go_sem, rowFd]
  refine ifB'.of (fun h => ?_) (fun h => ?_)
  rotate_left
  · simp -dsimp -implicitDefEqProofs only [go_sem]
    exact fds_f fun e => h (by rw [e])
  have hl : xs.length = ys.length := by omega
  simp -dsimp -implicitDefEqProofs only [go_sem]
  refine LoopE.cnt xs.length (fun i s => s.env 1 = .rd .ent 101 3 (ra fdC ys) ∧ s.env 2 = .v (.func (.func 122) #[] #[]) ∧ s.env 15 = .rd .ent 101 3 (ra fdC xs) ∧ s.env 16 = .v (.int .i64 xs.length) ∧ s.env 17 = .v (.int .i64 i) ∧ xs.take i = ys.take i) ⟨by simp -dsimp -implicitDefEqProofs only [go_sem, initE, rowFd], by simp -dsimp -implicitDefEqProofs only [go_sem, initE], by simp -dsimp -implicitDefEqProofs only [go_sem, initE, rowFd], by simp -dsimp -implicitDefEqProofs only [go_sem, initE, rowFd], by simp -dsimp -implicitDefEqProofs only [go_sem] <;> rfl, by simp⟩ ?_
  rintro i ⟨e, σ⟩ hi ⟨h1, h2, h15, h16, h17, hall⟩ K hK
  simp only at h1 h2 h15 h16 h17
  simp -dsimp -implicitDefEqProofs only [go_sem, h1, h2, h15, h16, h17]
  refine ifB'.of (fun hlt => ?_) (fun hlt => ?_)
  · have hlt : i < xs.length := by omega
    have hlt' : i < ys.length := by omega
    repeat (first | with_reducible refine ask.of (by first | omega | decide) ?_ | simp -dsimp -implicitDefEqProofs only [go_sem, h1, h2, h15, h16, h17, Fd_at hlt, Fd_at hlt', fdC, bl3])
    refine CallV.ofE (c_sameFn xs[i] ys[i] (hxb _ (List.getElem_mem hlt)) (hyb _ (List.getElem_mem hlt'))) (by rintro r rfl; (repeat' first | exact trivial | exact pure_rowB _ | exact pure_rowO _ | exact pure_rowI _ | exact pure_rowBB _ | exact pure_rowPk _ _ | exact pure_rowSn _ _ | exact pure_rowFd _ _ | exact pure_rowBBB _ | exact pure_rowCl _ _ | exact pure_rowTb _ _ _ | refine And.intro ?_ ?_)) (by first | (simp -dsimp -implicitDefEqProofs only [go_sem, h1, h2, h15, h16, h17, fdC, hp]; done) | (simp -dsimp -implicitDefEqProofs only [go_sem, h1, h2, h15, h16, h17, fdC, hp]; rfl)) (by first | (simp -dsimp -implicitDefEqProofs only [go_sem, h1, h2, h15, h16, h17, fdC, hp]; done) | (simp -dsimp -implicitDefEqProofs only [go_sem, h1, h2, h15, h16, h17, fdC, hp]; rfl)) (by first | rfl | (simp -dsimp -implicitDefEqProofs only [go_sem, h1, h2, h15, h16, h17, fdC, hp]; done)) ?_
    rintro r rfl
    simp -dsimp -implicitDefEqProofs only [go_sem, h1, h2, h15, h16, h17, fdC, hp]
    cases hv : fdSame xs[i] ys[i]
    · simp -dsimp -implicitDefEqProofs only [go_sem, h1, h2, h15, h16, h17, Bool.not_false]
      exact fds_f (at_ne hlt hlt' (fdSame_f hv))
    · simp -dsimp -implicitDefEqProofs only [go_sem, h1, h2, h15, h16, h17, Bool.not_true]
      refine hK _ hlt ?_
      simp -dsimp -implicitDefEqProofs only [go_sem, h1, h2, h15, h16, h17, wrap_succ (show i < 4611686018427387904 by omega)]
      exact take_same hall hlt hlt' (fdSame_t hv)
  · have : i = xs.length := by omega
    subst this
    rw [List.take_length, hl, List.take_length] at hall
    simp -dsimp -implicitDefEqProofs only [go_sem, h1, h2, h15, h16, h17]
    exact fds_t hall
theorem c_sameFields (xs ys : List Fd) (hx : xs.length ≤ 1048576) (hy : ys.length ≤ 1048576) (hxb : ∀ b ∈ xs, b.f.length ≤ 1048576) (hyb : ∀ b ∈ ys, b.f.length ≤ 1048576) :
    Meets Tryz.prog 72 [rowFd 101 xs, rowFd 101 ys] (fun r => r = .v (.bool (fdsB xs ys))) := by
  refine Meets.intro mixed (hint []) Tryz.func72 rfl (by decide) res_72 rty_72 (by kernel_rfl) ?_; 
  simp -dsimp -implicitDefEqProofs only [go_sem, rowFd]
  refine CallE.of (c_equalFuncFd xs ys hx hy hxb hyb) (by rintro r rfl; (repeat' first | exact trivial | exact pure_rowB _ | exact pure_rowO _ | exact pure_rowI _ | exact pure_rowBB _ | exact pure_rowPk _ _ | exact pure_rowSn _ _ | exact pure_rowFd _ _ | exact pure_rowBBB _ | exact pure_rowCl _ _ | exact pure_rowTb _ _ _ | refine And.intro ?_ ?_)) (by simp -dsimp -implicitDefEqProofs only [go_sem, rowFd]) ?_
  rintro r rfl
  simp -dsimp -implicitDefEqProofs only [go_sem, rowFd]
set_option maxRecDepth 8000 in
set_option maxHeartbeats 1000000 in
theorem c_l6sameFields (xs ys : List Fd) (hx : xs.length ≤ 1048576) (hy : ys.length ≤ 1048576) (hxb : ∀ b ∈ xs, b.f.length ≤ 1048576) (hyb : ∀ b ∈ ys, b.f.length ≤ 1048576) :
    Meets Tryz.prog 56 [rowFd 101 xs, rowFd 101 ys] (fun r => r = .v (.bool (fdsB xs ys))) := by
  refine Meets.introO mixed (hint []) (fun k => (sel (k == 6) [0,1,2,3,4,5,6,7,8,9,10,11,12,13,14,15,16,17,18,19,20,21,22,23,24,25,26,27,28,29,30,31,32,33,34,35,36,37] [])) Tryz.func56 rfl (by decide) res_56 rty_56 (by kernel_rfl) ?_; 
  simp -dsimp -implicitDefEqProofs only [go_sem, rowFd]
  refine ifB'.of (fun h => ?_) (fun h => ?_)
  rotate_left
  · simp -dsimp -implicitDefEqProofs only [go_sem]
    exact fds_f fun e => h (by rw [e])
  have hl : xs.length = ys.length := by omega
  simp -dsimp -implicitDefEqProofs only [go_sem]
  refine LoopE.cnt xs.length (fun i s => s.env 0 = .rd .ent 101 3 (ra fdC xs) ∧ s.env 1 = .rd .ent 101 3 (ra fdC ys) ∧ s.env 5 = .v (.int .i64 i) ∧ xs.take i = ys.take i) ⟨by simp -dsimp -implicitDefEqProofs only [go_sem, initE, rowFd], by simp -dsimp -implicitDefEqProofs only [go_sem, initE, rowFd], by simp -dsimp -implicitDefEqProofs only [go_sem] <;> rfl, by simp⟩ ?_
  rintro i ⟨e, σ⟩ hi ⟨h0, h1, h5, hall⟩ K hK
  simp only at h0 h1 h5
  simp -dsimp -implicitDefEqProofs only [go_sem, h0, h1, h5]
  refine ifB'.of (fun hlt => ?_) (fun hlt => ?_)
  · have hlt : i < xs.length := by omega
    have hlt' : i < ys.length := by omega
    repeat (first | with_reducible refine ask.of (by first | omega | decide) ?_ | simp -dsimp -implicitDefEqProofs only [go_sem, h0, h1, h5, Fd_at hlt, Fd_at hlt', fdC, bl3])
    refine CallE.of (c_l1same xs[i].f ys[i].f (by have := hxb _ (List.getElem_mem hlt); omega) (by have := hyb _ (List.getElem_mem hlt'); omega)) (by rintro r rfl; (repeat' first | exact trivial | exact pure_rowB _ | exact pure_rowO _ | exact pure_rowI _ | exact pure_rowBB _ | exact pure_rowPk _ _ | exact pure_rowSn _ _ | exact pure_rowFd _ _ | exact pure_rowBBB _ | exact pure_rowCl _ _ | exact pure_rowTb _ _ _ | refine And.intro ?_ ?_)) (by simp -dsimp -implicitDefEqProofs only [go_sem, h0, h1, h5]) ?_
    rintro r rfl
    simp -dsimp -implicitDefEqProofs only [go_sem, h0, h1, h5]
    repeat' (first | with_reducible refine ifB'.of (fun h => ?_) (fun h => ?_) | with_reducible refine ask.of (by first | omega | decide) ?_ | simp -dsimp -implicitDefEqProofs only [go_sem, h0, h1, h5, Fd_at hlt, Fd_at hlt', fdC, bl3])
    all_goals (first
      | (refine hK _ hlt ?_; simp -dsimp -implicitDefEqProofs only [go_sem, h0, h1, h5, wrap_succ (show i < 4611686018427387904 by omega)]; exact take_same hall hlt hlt' ((fdSame_iff _ _).1 ⟨by assumption, by assumption, by assumption⟩))
      | exact fds_f (at_ne hlt hlt' fun e => absurd (congrArg Fd.f e) (by assumption))
      | exact fds_f (at_ne hlt hlt' fun e => absurd (congrArg Fd.k e) (by assumption))
      | exact fds_f (at_ne hlt hlt' fun e => absurd (congrArg Fd.w e) (by assumption)))
  · have : i = xs.length := by omega
    subst this
    rw [List.take_length, hl, List.take_length] at hall
    simp -dsimp -implicitDefEqProofs only [go_sem, h0, h1, h5]
    exact fds_t hall
end Go.Ev
set_option linter.unusedSimpArgs false
set_option linter.unusedVariables false
namespace Go.Ev
open Go Go.RowKit Go.Proofs
structure Sd where
  f : List Fd
  e : Int
  b : Int
  t : List Tb
  p : Int
  o : LO
  s : Sm
def sdC (F C T S : Nat) (x : Sd) : List AV := [.row F 3 (ra fdC x.f), .v (.int .i64 x.e), .v (.int .i64 x.b), .row T 2 (ra (tbC C) x.t), .v (.int .i64 x.p),
  .v (.int .i64 x.o.a), .v (.int .i64 x.o.b), .v (.int .i64 x.o.c), .row S 7 (ra snC x.o.h), .v (.bool x.s.o), .row F 3 (ra fdC x.s.fs), .v (.int .i64 x.s.s), .row 132 1 (ra bbC x.s.ds)]
def sdCi (x : Sd) : List AV := sdC 101 149 105 122 x
def sdCl (x : Sd) : List AV := sdC 84 165 88 130 x
def sdW (x : Sd) : Nat := x.f.length + szL fdW x.f + (x.t.length + szL tbW x.t) + loW x.o + smW x.s
theorem bl13 : Nat.ble 9 13 = true ∧ Nat.ble 13 13 = true ∧ Nat.ble 5 13 = true ∧ Nat.ble 6 13 = true ∧ Nat.ble 10 13 = true ∧ Nat.ble 11 13 = true := ⟨rfl, rfl, rfl, rfl, rfl, rfl⟩
structure SdB (x : Sd) : Prop where
  f : x.f.length ≤ 1048576
  fb : ∀ b ∈ x.f, b.f.length ≤ 1048576
  t : x.t.length ≤ 1048576
  tb : ∀ t ∈ x.t, tbGood t
  o : x.o.h.length ≤ 1048576
  ob : ∀ b ∈ x.o.h, b.p.f.length ≤ 1048576
  sf : x.s.fs.length ≤ 1048576
  sfb : ∀ b ∈ x.s.fs, b.f.length ≤ 1048576
  sd : x.s.ds.length ≤ 1048576
  sdb : ∀ b ∈ x.s.ds, b.length + wBB b ≤ 1048576
def okSd (x : Sd) : Prop := (okF x.f ∧ 1 ≤ x.e ∧ x.e ≤ 1000000000 ∧ x.o.a = x.e ∧ okLO x.o) ∧ (0 ≤ x.b ∧ x.b + x.t.length ≤ 1000000000 ∧ tsOk x.f x.t ∧ 0 ≤ x.p ∧ x.p ≤ x.t.length) ∧ okS x.s ∧ x.s.o = true ∧ x.s.fs = x.f ∧ x.s.s = x.b + x.p
noncomputable def sdB (x : Sd) : Bool := @decide (okSd x) (Classical.propDecidable _)
theorem sd_f {x : Sd} (h : ¬ okSd x) : false = sdB x := (@decide_eq_false _ (Classical.propDecidable _) h).symm
theorem sd_t {x : Sd} (h : okSd x) : true = sdB x := (@decide_eq_true _ (Classical.propDecidable _) h).symm
theorem sdB_t {x : Sd} (h : sdB x = true) : okSd x := of_decide_eq_true (inst := Classical.propDecidable _) h
theorem sdB_f {x : Sd} (h : sdB x = false) : ¬ okSd x := of_decide_eq_false (inst := Classical.propDecidable _) h
theorem sd_d {x : Sd} {q : Prop} [hd : Decidable q] (h : q ↔ okSd x) : decide q = sdB x := by
  by_cases hq : q
  · rw [decide_eq_true hq]; exact sd_t (h.1 hq)
  · rw [decide_eq_false hq]; exact sd_f (fun h' => hq (h.2 h'))
theorem smB_t {x : Sm} (h : smB x = true) : okS x := of_decide_eq_true (inst := Classical.propDecidable _) h
theorem c_vsFn (x : Sd) (t : Tb) (hx : SdB x) (ht : tbGood t) : Meets Tryz.prog 69 [.agg (tbC 149 t), .bx 41 (sdCi x)] (fun r => r = .v (.bool (!tbB x.f t.r t.c))) := by
  refine Meets.intro mixed (hint []) Tryz.func69 rfl (by decide) res_69 rty_69 (by kernel_rfl) ?_; 
  simp -dsimp -implicitDefEqProofs only [go_sem, tbC, sdCi, sdC]
  repeat (first | with_reducible refine ask.of (by first | omega | decide) ?_ | simp -dsimp -implicitDefEqProofs only [go_sem, bl22, bl13])
  refine CallE.of (c_iValidTable x.f t.r t.c hx.f hx.fb ht.1 ht.2) (by rintro r rfl; (repeat' first | exact trivial | exact pure_rowB _ | exact pure_rowO _ | exact pure_rowI _ | exact pure_rowBB _ | exact pure_rowPk _ _ | exact pure_rowSn _ _ | exact pure_rowFd _ _ | exact pure_rowBBB _ | exact pure_rowCl _ _ | exact pure_rowTb _ _ _ | refine And.intro ?_ ?_)) (by simp -dsimp -implicitDefEqProofs only [go_sem, tbC, rowFd]) ?_
  rintro r rfl
  simp -dsimp -implicitDefEqProofs only [go_sem, tbC, rowFd]
theorem loB_iff (x : LO) : okLO x ↔ loB x = true := ⟨fun h => (lo_t h).symm, fun h => of_decide_eq_true (inst := Classical.propDecidable _) h⟩
theorem smB_iff (x : Sm) : okS x ↔ smB x = true := ⟨fun h => (sm_t h).symm, smB_t⟩
theorem tsB_iff (fs : List Fd) (xs : List Tb) : tsOk fs xs ↔ tsB fs xs = true := ⟨fun h => (ts_t h).symm, tsB_t⟩
theorem tbB_iff (fs : List Fd) (r : Int) (xs : List Cl) : okT fs r xs ↔ tbB fs r xs = true := ⟨fun h => (tb_t h).symm, tbB_t⟩
theorem fdsB_iff (xs ys : List Fd) : xs = ys ↔ fdsB xs ys = true := ⟨fun h => (fds_t h).symm, fdsB_t⟩
theorem tsOk_any (fs : List Fd) (xs : List Tb) : tsOk fs xs ↔ xs.length ≤ 20 ∧ (xs.any fun t => !tbB fs t.r t.c) = false := by
  unfold tsOk
  rw [List.any_eq_false]
  constructor
  · rintro ⟨h1, h2⟩; exact ⟨h1, fun t ht => by rw [(tbB_iff _ _ _).1 (h2 t ht)]; decide⟩
  · rintro ⟨h1, h2⟩; exact ⟨h1, fun t ht => (tbB_iff _ _ _).2 (by have := h2 t ht; cases hb : tbB fs t.r t.c <;> simp_all)⟩
theorem sd_iff (x : Sd) : okSd x ↔ (okF x.f ∧ loB x.o = true ∧ tsB x.f x.t = true ∧ smB x.s = true ∧ x.s.o = true ∧ fdsB x.s.fs x.f = true) ∧ 1 ≤ x.e ∧ x.e ≤ 1000000000 ∧ x.o.a = x.e ∧ 0 ≤ x.b ∧ x.b + x.t.length ≤ 1000000000 ∧ 0 ≤ x.p ∧ x.p ≤ x.t.length ∧ x.t.length ≤ 20 ∧ x.s.s = x.b + x.p := by
  rw [← loB_iff, ← tsB_iff, ← smB_iff, ← fdsB_iff]
  unfold okSd
  constructor
  · rintro ⟨⟨a1, a2, a3, a4, a5⟩, ⟨b1, b2, b3, b4, b5⟩, c1, c2, c3, c4⟩; exact ⟨⟨a1, a5, b3, c1, c2, c3⟩, a2, a3, a4, b1, b2, b4, b5, b3.1, c4⟩
  · rintro ⟨⟨a1, a5, b3, c1, c2, c3⟩, a2, a3, a4, b1, b2, b4, b5, _, c4⟩; exact ⟨⟨a1, a2, a3, a4, a5⟩, ⟨b1, b2, b3, b4, b5⟩, c1, c2, c3, c4⟩
set_option maxRecDepth 16000 in
set_option maxHeartbeats 4000000 in
theorem c_sValidSender (x : Sd) (hx : SdB x) : Meets Tryz.prog 21 [.agg (sdCi x)] (fun r => r = .v (.bool (sdB x))) := by
  refine Meets.intro mixed (hint []) Tryz.func21 rfl (by decide) res_21 rty_21 (by kernel_rfl) ?_; 
  simp -dsimp -implicitDefEqProofs only [go_sem, sdCi, sdC]
  have ht := hx.t
  have e1 : IntKind.i64.wrap (1000000000 - (x.t.length : Int)) = 1000000000 - x.t.length := wrap_i64_of (by omega) (by omega)
  have e2 : 0 ≤ x.b → x.b ≤ 1000000000 → 0 ≤ x.p → x.p ≤ x.t.length → IntKind.i64.wrap (x.b + x.p) = x.b + x.p := fun _ _ _ _ => wrap_i64_of (by omega) (by omega)
  have hlo := c_specValidOut x.o hx.o hx.ob
  have hsm := c_specValidStream x.s hx.sf hx.sfb hx.sd hx.sdb
  repeat' (first
    | with_reducible refine ask.of (by first | omega | decide) ?_
    | (refine CallE.of (c_sValidFields x.f hx.f hx.fb) ?_ ?_ ?_; rotate_left; (· (simp -dsimp -implicitDefEqProofs only [go_sem, rowFd]; done)); rotate_left; (· (rintro r rfl; trivial)); rintro r rfl; simp -dsimp -implicitDefEqProofs only [go_sem])
    | (refine CallE.of hlo ?_ ?_ ?_; rotate_left; (· (simp -dsimp -implicitDefEqProofs only [go_sem, loC]; done)); rotate_left; (· (rintro r rfl; trivial)); rintro r rfl; simp -dsimp -implicitDefEqProofs only [go_sem])
    | (refine CallE.of (c_tablesOK x.f x.t hx.f hx.fb hx.t hx.tb) ?_ ?_ ?_; rotate_left; (· (simp -dsimp -implicitDefEqProofs only [go_sem, rowFd, rowTb]; done)); rotate_left; (· (rintro r rfl; trivial)); rintro r rfl; simp -dsimp -implicitDefEqProofs only [go_sem])
    | (refine CallE.of hsm ?_ ?_ ?_; rotate_left; (· (simp -dsimp -implicitDefEqProofs only [go_sem, smC]; done)); rotate_left; (· (rintro r rfl; trivial)); rintro r rfl; simp -dsimp -implicitDefEqProofs only [go_sem])
    | (refine CallE.of (c_l6sameFields x.s.fs x.f hx.sf hx.f hx.sfb hx.fb) ?_ ?_ ?_; rotate_left; (· (simp -dsimp -implicitDefEqProofs only [go_sem, rowFd]; done)); rotate_left; (· (rintro r rfl; trivial)); rintro r rfl; simp -dsimp -implicitDefEqProofs only [go_sem])
    | with_reducible refine ifB'.of (fun h => ?_) (fun h => ?_)
    | ((with_reducible refine sd_f ?_); intro hh; obtain ⟨⟨a1, a2, a3, a4, a5, a6⟩, a7⟩ := (sd_iff x).1 hh; first | omega | contradiction | exact absurd (a2.symm.trans ‹loB x.o = false›) (by decide) | exact absurd (a3.symm.trans ‹tsB x.f x.t = false›) (by decide) | exact absurd (a4.symm.trans ‹smB x.s = false›) (by decide) | exact absurd (a5.symm.trans ‹x.s.o = false›) (by decide) | exact absurd (a6.symm.trans ‹fdsB x.s.fs x.f = false›) (by decide))
    | with_reducible refine ifB'.bool (fun h => ?_) (fun h => ?_)
    | simp -dsimp -implicitDefEqProofs only [go_sem, bl22, bl13, e1])
  rw [e2 (by omega) (by omega) (by omega) (by omega)]
  exact sd_d ⟨fun q => (sd_iff x).2 ⟨⟨by assumption, by assumption, by assumption, by assumption, by assumption, by assumption⟩, by have := ((tsB_iff x.f x.t).2 ‹_›).1; omega⟩, fun hh => by have := ((sd_iff x).1 hh).2; omega⟩
theorem sd_iff2 (x : Sd) : okSd x ↔ (okF x.f ∧ loB x.o = true ∧ (x.t.any fun t => !tbB x.f t.r t.c) = false ∧ smB x.s = true ∧ x.s.o = true ∧ fdsB x.s.fs x.f = true) ∧ 1 ≤ x.e ∧ x.e ≤ 1000000000 ∧ x.o.a = x.e ∧ 0 ≤ x.b ∧ x.b + x.t.length ≤ 1000000000 ∧ 0 ≤ x.p ∧ x.p ≤ x.t.length ∧ x.t.length ≤ 20 ∧ x.s.s = x.b + x.p := by
  rw [sd_iff, ← tsB_iff, tsOk_any]
  constructor
  · rintro ⟨⟨a1, a2, a3, a4, a5, a6⟩, a7⟩; exact ⟨⟨a1, a2, a3.2, a4, a5, a6⟩, a7⟩
  · rintro ⟨⟨a1, a2, a3, a4, a5, a6⟩, a7⟩; exact ⟨⟨a1, a2, ⟨a7.2.2.2.2.2.2.2.1, a3⟩, a4, a5, a6⟩, a7⟩
set_option maxRecDepth 16000 in
set_option maxHeartbeats 4000000 in
theorem c_iValidSender (x : Sd) (hx : SdB x) : Meets Tryz.prog 28 [.agg (sdCi x)] (fun r => r = .v (.bool (sdB x))) := by
  refine Meets.intro mixed (hint []) Tryz.func28 rfl (by decide) res_28 rty_28 (by kernel_rfl) ?_; 
  simp -dsimp -implicitDefEqProofs only [go_sem, sdCi, sdC]
  have ht := hx.t
  have e1 : 0 ≤ x.b → x.b ≤ 1000000000 → IntKind.i64.wrap (x.b + (x.t.length : Int)) = x.b + x.t.length := fun _ _ => wrap_i64_of (by omega) (by omega)
  have e2 : 0 ≤ x.b → x.b ≤ 1000000000 → 0 ≤ x.p → x.p ≤ x.t.length → IntKind.i64.wrap (x.b + x.p) = x.b + x.p := fun _ _ _ _ => wrap_i64_of (by omega) (by omega)
  have hlo := c_implValidOut x.o hx.o hx.ob
  have hsm := c_implValidStream x.s hx.sf hx.sfb hx.sd hx.sdb
  have hany := c_containsFuncT 69 41 (sdCi x) (fun t => !tbB x.f t.r t.c) x.t hx.t (fun t ht => c_vsFn x t hx (hx.tb t ht)) (by kernel_rfl)
  generalize hA : (x.t.any fun t => !tbB x.f t.r t.c) = A at *
  repeat' (first
    | with_reducible refine ask.of (by first | omega | decide) ?_
    | (refine CallE.of (c_iValidFields x.f hx.f hx.fb) ?_ ?_ ?_; rotate_left; (· (simp -dsimp -implicitDefEqProofs only [go_sem, rowFd]; done)); rotate_left; (· (rintro r rfl; trivial)); rintro r rfl; simp -dsimp -implicitDefEqProofs only [go_sem])
    | (refine CallE.of hlo ?_ ?_ ?_; rotate_left; (· (simp -dsimp -implicitDefEqProofs only [go_sem, loC]; done)); rotate_left; (· (rintro r rfl; trivial)); rintro r rfl; simp -dsimp -implicitDefEqProofs only [go_sem])
    | (refine CallE.of hany ?_ ?_ ?_; rotate_left; (· (simp -dsimp -implicitDefEqProofs only [go_sem, rowTb, sdCi, sdC]; done)); rotate_left; (· (rintro r rfl; trivial)); rintro r rfl; simp -dsimp -implicitDefEqProofs only [go_sem])
    | (refine CallE.of hsm ?_ ?_ ?_; rotate_left; (· (simp -dsimp -implicitDefEqProofs only [go_sem, smC]; done)); rotate_left; (· (rintro r rfl; trivial)); rintro r rfl; simp -dsimp -implicitDefEqProofs only [go_sem])
    | (refine CallE.of (c_sameFields x.s.fs x.f hx.sf hx.f hx.sfb hx.fb) ?_ ?_ ?_; rotate_left; (· (simp -dsimp -implicitDefEqProofs only [go_sem, rowFd]; done)); rotate_left; (· (rintro r rfl; trivial)); rintro r rfl; simp -dsimp -implicitDefEqProofs only [go_sem])
    | (rw [e1 (by omega) (by omega)]; fail_if_success rfl)
    | with_reducible refine ifB'.of (fun h => ?_) (fun h => ?_)
    | ((with_reducible refine sd_f ?_); intro hh; obtain ⟨⟨a1, a2, a3, a4, a5, a6⟩, a7⟩ := (sd_iff2 x).1 hh; rw [hA] at a3; first | omega | contradiction | exact absurd (a2.symm.trans ‹loB x.o = false›) (by decide) | exact absurd (a3.symm.trans ‹A = true›) (by decide) | exact absurd (a4.symm.trans ‹smB x.s = false›) (by decide) | exact absurd (a5.symm.trans ‹x.s.o = false›) (by decide) | exact absurd (a6.symm.trans ‹fdsB x.s.fs x.f = false›) (by decide))
    | with_reducible refine ifB'.bool (fun h => ?_) (fun h => ?_)
    | simp -dsimp -implicitDefEqProofs only [go_sem, bl22, bl13])
  rw [e2 (by omega) (by omega) (by omega) (by omega)]
  exact sd_d ⟨fun q => (sd_iff2 x).2 ⟨⟨by assumption, by assumption, hA.trans (by assumption), by assumption, by assumption, by assumption⟩, by omega⟩, fun hh => by have := ((sd_iff2 x).1 hh).2; omega⟩
end Go.Ev
