/- Part 18 of what the row leans on: the evaluator, words, contracts of functions; pruned by a program of ours. -/
import Derived.Test.YtnoelgaficjjmaaGreatTk17
set_option linter.unusedSimpArgs false
set_option linter.unusedVariables false
namespace Go.Ev
open Go Go.RowKit Go.Proofs
theorem tk2_k {x : Sd} {p : Pk} (k : Int) (hk : (p.d < x.b ∧ k = 0) ∨ (x.b ≤ p.d ∧ k = p.d - x.b)) (hp : 0 ≤ x.p) : tk2 x p = { x with b := x.b + k, t := x.t.drop k.toNat, p := if x.p < k then x.p else x.p - k } := by
  by_cases h : 0 < p.d - x.b
  · obtain rfl : k = p.d - x.b := by omega
    rw [tk2, if_pos h]
    have e : x.b + (p.d - x.b) = p.d := by omega
    rw [e]
  · obtain rfl : k = 0 := by omega
    have e : (if x.p < 0 then x.p else x.p - 0) = x.p := by split <;> omega
    have e2 : x.b + 0 = x.b := by omega
    have e3 : x.t.drop (0 : Int).toNat = x.t := rfl
    rw [tk2, if_neg h, e, e2, e3]
theorem takL_6 {x : Sd} {p : Pk} (h : okSd x) (c1 : tkG x p) (c2 : ¬ tkN x p) (h3 : p.a = 3 ∨ x.p < p.d - x.b) (h6 : 1000000000 ≤ x.e) : takL x p 0 = (x, 6) := by
  have e1 : (tk2 (tk1 x p) p).e = x.e := (tk2_e _ _).1.trans (tk1_e _ _).1
  have e2 : takM x p = (tk2 (tk1 x p) p, 6) := (takM_ren c1 c2 h3).trans (renL_end (by omega))
  have h2 : ¬ ((takM x p).2 = 0 ∨ (takM x p).2 = 5) := by rw [e2]; show ¬ ((6 : Int) = 0 ∨ (6 : Int) = 5); decide
  rw [takL_n h h2, e2]
theorem takL_5 {x : Sd} {p : Pk} (k : Int) (hk : (p.d < x.b ∧ k = 0) ∨ (x.b ≤ p.d ∧ k = p.d - x.b)) (hp : 0 ≤ x.p) (h : okSd x) (c1 : tkG x p) (c2 : ¬ tkN x p) (h3 : p.a = 3 ∨ x.p < p.d - x.b) (h6 : ¬ 1000000000 ≤ x.e) : takL x p 0 = (begL x.f (x.e + 1) (x.b + k) (x.t.drop k.toNat), 5) := by
  have e0 := tk1_e x p
  have e1 : (tk2 (tk1 x p) p).e = x.e := (tk2_e _ _).1.trans e0.1
  have e3 := tk2_k (x := tk1 x p) (p := p) k (by rw [e0.2.1]; exact hk) (by rw [e0.2.2.1]; exact hp)
  have e2 : takM x p = (begL x.f (x.e + 1) (x.b + k) (x.t.drop k.toNat), 5) := by
    rw [takM_ren c1 c2 h3, renL_yes (by omega), e3]
    show (begL (tk1 x p).f ((tk1 x p).e + 1) ((tk1 x p).b + k) ((tk1 x p).t.drop k.toNat), (5 : Int)) = _
    rw [e0.1, e0.2.1, e0.2.2.2.1, e0.2.2.2.2]
  rw [takL_y h (by rw [e2]; exact .inr rfl), e2]
theorem takL_0 {x : Sd} {p : Pk} (k : Int) (hk : (p.d < x.b ∧ k = 0) ∨ (x.b ≤ p.d ∧ k = p.d - x.b)) (hp : 0 ≤ x.p) (h : okSd x) (c1 : tkG x p) (c2 : ¬ tkN x p) (ha : p.a = 2) (h3 : ¬ x.p < k) : takL x p 0 = ({ x with o := (ackL x.o p.c).1, b := x.b + k, t := x.t.drop k.toNat, p := x.p - k }, 0) := by
  have e0 : tk1 x p = { x with o := (ackL x.o p.c).1 } := if_pos ha
  have e3 := tk2_k (x := tk1 x p) (p := p) k (by rw [e0]; exact hk) (by rw [e0]; exact hp)
  have e2 : takM x p = ({ x with o := (ackL x.o p.c).1, b := x.b + k, t := x.t.drop k.toNat, p := x.p - k }, 0) := by
    rw [takM_ok c1 c2 (by omega), e3, e0]
    show (({ x with o := (ackL x.o p.c).1, b := x.b + k, t := x.t.drop k.toNat, p := if x.p < k then x.p else x.p - k } : Sd), (0 : Int)) = _
    rw [if_neg h3]
  rw [takL_y h (by rw [e2]; exact .inl rfl), e2]
set_option maxRecDepth 8000 in
set_option maxHeartbeats 8000000 in
theorem c_specSenderTake (x : Sd) (b : List UInt8) (p : Pk) (c : Int) (hd : decP b = (p, c)) (hx : SdT x) (hb : b.length ≤ 1048576) : Meets Tryz.prog 12 [.agg (sdCi x), rowB b] (fun r => r = resSI (takL x p c)) := by
  have hk := decP_k b
  have hD := c_specDecodePacket b hb
  rw [decRes, hd] at hD
  rw [hd] at hk
  simp only at hk hD
  refine Meets.introO mixed (hint []) (fun k => (sel (k == 17) [0,1,2,3,4,5,6,7,8,9,10,11,12,13,14,15] [])) Tryz.func12 rfl (by decide) res_12 rty_12 (by kernel_rfl) ?_; 
  simp -dsimp -implicitDefEqProofs only [go_sem, sdCi, sdC, rowB]
  repeat (first | with_reducible refine ask.of (by first | omega | decide) ?_ | simp -dsimp -implicitDefEqProofs only [go_sem, bl13, bl13b, bl6z])
  refine CallE.of (c_sValidSender x hx.toSdB) (by rintro r rfl; (repeat' first | exact trivial | exact pure_rowB _ | exact pure_rowO _ | exact pure_rowI _ | exact pure_rowBB _ | exact pure_rowPk _ _ | exact pure_rowSn _ _ | exact pure_rowFd _ _ | exact pure_rowBBB _ | exact pure_rowCl _ _ | exact pure_rowTb _ _ _ | refine And.intro ?_ ?_)) (by simp -dsimp -implicitDefEqProofs only [go_sem, sdCi, sdC]) ?_
  rintro r rfl
  simp -dsimp -implicitDefEqProofs only [go_sem, sdCi, sdC]
  cases hv : sdB x
  · rw [takL_no (sdB_f hv)]
    repeat (first | with_reducible refine ask.of (by first | omega | decide) ?_ | simp -dsimp -implicitDefEqProofs only [go_sem, bl13, bl13b, Bool.not_false])
    rfl
  have hok := sdB_t hv
  have hq := okSd_b hok
  repeat (first | with_reducible refine ask.of (by first | omega | decide) ?_ | simp -dsimp -implicitDefEqProofs only [go_sem, bl13, bl13b, bl6z, Bool.not_true])
  refine CallE.of (c_l6sender x hx) (by rintro r rfl; (repeat' first | exact trivial | exact pure_rowB _ | exact pure_rowO _ | exact pure_rowI _ | exact pure_rowBB _ | exact pure_rowPk _ _ | exact pure_rowSn _ _ | exact pure_rowFd _ _ | exact pure_rowBBB _ | exact pure_rowCl _ _ | exact pure_rowTb _ _ _ | refine And.intro ?_ ?_)) (by simp -dsimp -implicitDefEqProofs only [go_sem, sdCi, sdC]) ?_
  rintro r rfl
  simp -dsimp -implicitDefEqProofs only [go_sem, sdCi, sdC]
  repeat (first | with_reducible refine ask.of (by first | omega | decide) ?_ | simp -dsimp -implicitDefEqProofs only [go_sem, bl13, bl13b, bl6z])
  refine CallE.of (hD) (by rintro r rfl; (repeat' first | exact trivial | exact pure_rowB _ | exact pure_rowO _ | exact pure_rowI _ | exact pure_rowBB _ | exact pure_rowPk _ _ | exact pure_rowSn _ _ | exact pure_rowFd _ _ | exact pure_rowBBB _ | exact pure_rowCl _ _ | exact pure_rowTb _ _ _ | refine And.intro ?_ ?_)) (by simp -dsimp -implicitDefEqProofs only [go_sem, rowB, pkC]) ?_
  rintro r rfl
  simp -dsimp -implicitDefEqProofs only [go_sem, rowB, pkC]
  repeat (first | with_reducible refine ask.of (by first | omega | decide) ?_ | simp -dsimp -implicitDefEqProofs only [go_sem, bl13, bl13b, bl6z])
  rcases hk.2.1 with rfl | rfl
  · have hp := hk.2.2 rfl
    have hpd : 0 ≤ p.d ∧ p.d ≤ 1000000000 ∧ 0 ≤ p.c ∧ p.c ≤ 1000000000000 ∧ 1 ≤ p.a ∧ p.a ≤ 4 := by unfold okPk at hp; omega
    have e1 : IntKind.i64.wrap (x.b + (x.t.length : Int)) = x.b + (x.t.length : Int) := wrap_i64_of (by omega) (by omega)
    have e2 : IntKind.i64.wrap (p.d - x.b) = p.d - x.b := wrap_i64_of (by omega) (by omega)
    by_cases c1 : tkG x p
    · have c1' := c1
      unfold tkG at c1'
      by_cases c2 : tkN x p
      · have h2 : ¬ ((takM x p).2 = 0 ∨ (takM x p).2 = 5) := by rw [takM_bad c1 c2]; show ¬ ((1 : Int) = 0 ∨ (1 : Int) = 5); decide
        rw [takL_n hok h2, takM_bad c1 c2]
        have c2' := c2
        unfold tkN at c2'
        repeat' (first | rfl | with_reducible refine ask.of (by first | omega | decide) ?_ | with_reducible refine ifB'.no (by omega) ?_ | with_reducible refine ifB'.yes (by omega) ?_ | ((with_reducible refine ifB'.of (fun _ => ?_) (fun _ => ?_)) <;> (try omega)) | simp -dsimp -implicitDefEqProofs only [go_sem, bl13, bl13b, bl13c, bl13d, bl6z, blZ, e1])
        all_goals omega
      · have c2' := c2
        unfold tkN at c2'
        by_cases d1 : p.a = 2
        · by_cases d2 : p.d < x.b
          · have hkk : (p.d < x.b ∧ (0 : Int) = 0) ∨ (x.b ≤ p.d ∧ 0 = p.d - x.b) := by omega
            have e5 : IntKind.i64.wrap (x.b + 0) = x.b + 0 := wrap_i64_of (by omega) (by omega)
            have e7 : IntKind.i64.wrap (x.p - 0) = x.p - 0 := wrap_i64_of (by omega) (by omega)
            rw [takL_0 0 hkk hq.2.2.1 hok c1 c2 d1 (by omega)]
            repeat' (first | with_reducible refine ask.of (by first | omega | decide) ?_ | with_reducible refine ifB'.no (by omega) ?_ | with_reducible refine ifB'.yes (by omega) ?_ | simp -dsimp -implicitDefEqProofs only [go_sem, bl13, bl13b, bl13c, bl13d, bl6z, blZ, e1, e2, e5, e7, decide_true, decide_false, Bool.not_true, Bool.not_false, List.take_length])
            refine CallE.of (c_specLinkAcked x.o p.c hx.o hx.ob) (by rintro r rfl; (repeat' first | exact trivial | exact pure_rowB _ | exact pure_rowO _ | exact pure_rowI _ | exact pure_rowBB _ | exact pure_rowPk _ _ | exact pure_rowSn _ _ | exact pure_rowFd _ _ | exact pure_rowBBB _ | exact pure_rowCl _ _ | exact pure_rowTb _ _ _ | refine And.intro ?_ ?_)) (by simp -dsimp -implicitDefEqProofs only [go_sem, resL, loC]) ?_
            rintro r rfl
            simp -dsimp -implicitDefEqProofs only [go_sem, resL, loC]
            repeat' (first | with_reducible refine ask.of (by first | omega | decide) ?_ | with_reducible refine ifB'.no (by omega) ?_ | with_reducible refine ifB'.yes (by omega) ?_ | simp -dsimp -implicitDefEqProofs only [go_sem, bl13, bl13b, bl13c, bl13d, bl6z, blZ, e1, e2, e5, e7, decide_true, decide_false, Bool.not_true, Bool.not_false, List.take_length])
            refine CallE.of (c_l6tables (x.t.drop (0 : Int).toNat) (Nat.le_trans (by simp) hx.t) (fun t ht => hx.tt t (List.mem_of_mem_drop ht))) (by rintro r rfl; (repeat' first | exact trivial | exact pure_rowB _ | exact pure_rowO _ | exact pure_rowI _ | exact pure_rowBB _ | exact pure_rowPk _ _ | exact pure_rowSn _ _ | exact pure_rowFd _ _ | exact pure_rowBBB _ | exact pure_rowCl _ _ | exact pure_rowTb _ _ _ | refine And.intro ?_ ?_)) (by simp -dsimp -implicitDefEqProofs only [go_sem, rowTb]) ?_
            rintro r rfl
            simp -dsimp -implicitDefEqProofs only [go_sem, rowTb]
            repeat' (first | with_reducible refine ask.of (by first | omega | decide) ?_ | with_reducible refine ifB'.no (by omega) ?_ | with_reducible refine ifB'.yes (by omega) ?_ | simp -dsimp -implicitDefEqProofs only [go_sem, bl13, bl13b, bl13c, bl13d, bl6z, blZ, e1, e2, e5, e7, decide_true, decide_false, Bool.not_true, Bool.not_false, List.take_length])
            rfl
          · by_cases d3 : x.p < p.d - x.b
            · have hkk : (p.d < x.b ∧ ((p.d - x.b) : Int) = 0) ∨ (x.b ≤ p.d ∧ (p.d - x.b) = p.d - x.b) := by omega
              have e5 : IntKind.i64.wrap (x.b + (p.d - x.b)) = x.b + (p.d - x.b) := wrap_i64_of (by omega) (by omega)
              have e7 : IntKind.i64.wrap (x.p - (p.d - x.b)) = x.p - (p.d - x.b) := wrap_i64_of (by omega) (by omega)
              by_cases h6 : 1000000000 ≤ x.e
              · rw [takL_6 hok c1 c2 (by omega) h6]
                repeat' (first | with_reducible refine ask.of (by first | omega | decide) ?_ | with_reducible refine ifB'.no (by omega) ?_ | with_reducible refine ifB'.yes (by omega) ?_ | simp -dsimp -implicitDefEqProofs only [go_sem, bl13, bl13b, bl13c, bl13d, bl6z, blZ, e1, e2, e5, e7, decide_true, decide_false, Bool.not_true, Bool.not_false, List.take_length])
                rfl
              · have e6 : IntKind.i64.wrap (x.e + 1) = x.e + 1 := wrap_i64_of (by omega) (by omega)
                rw [takL_5 (p.d - x.b) hkk hq.2.2.1 hok c1 c2 (by omega) h6]
                repeat' (first | with_reducible refine ask.of (by first | omega | decide) ?_ | with_reducible refine ifB'.no (by omega) ?_ | with_reducible refine ifB'.yes (by omega) ?_ | simp -dsimp -implicitDefEqProofs only [go_sem, bl13, bl13b, bl13c, bl13d, bl6z, blZ, e1, e2, e5, e6, e7, decide_true, decide_false, Bool.not_true, Bool.not_false, List.take_length])
                refine CallE.of (c_l6begin x.f (x.e + 1) (x.b + (p.d - x.b)) (x.t.drop ((p.d - x.b) : Int).toNat) hx.f hx.fb (Nat.le_trans (by simp) hx.t) (fun t ht => hx.tt t (List.mem_of_mem_drop ht))) (by rintro r rfl; (repeat' first | exact trivial | exact pure_rowB _ | exact pure_rowO _ | exact pure_rowI _ | exact pure_rowBB _ | exact pure_rowPk _ _ | exact pure_rowSn _ _ | exact pure_rowFd _ _ | exact pure_rowBBB _ | exact pure_rowCl _ _ | exact pure_rowTb _ _ _ | refine And.intro ?_ ?_)) (by simp -dsimp -implicitDefEqProofs only [go_sem, rowFd, rowTb, sdCi, sdC]) ?_
                rintro r rfl
                simp -dsimp -implicitDefEqProofs only [go_sem, rowFd, rowTb, sdCi, sdC]
                repeat' (first | with_reducible refine ask.of (by first | omega | decide) ?_ | with_reducible refine ifB'.no (by omega) ?_ | with_reducible refine ifB'.yes (by omega) ?_ | simp -dsimp -implicitDefEqProofs only [go_sem, bl13, bl13b, bl13c, bl13d, bl6z, blZ, e1, e2, e5, e6, e7, decide_true, decide_false, Bool.not_true, Bool.not_false, List.take_length])
                rfl
            · have hkk : (p.d < x.b ∧ ((p.d - x.b) : Int) = 0) ∨ (x.b ≤ p.d ∧ (p.d - x.b) = p.d - x.b) := by omega
              have e5 : IntKind.i64.wrap (x.b + (p.d - x.b)) = x.b + (p.d - x.b) := wrap_i64_of (by omega) (by omega)
              have e7 : IntKind.i64.wrap (x.p - (p.d - x.b)) = x.p - (p.d - x.b) := wrap_i64_of (by omega) (by omega)
              rw [takL_0 (p.d - x.b) hkk hq.2.2.1 hok c1 c2 d1 (by omega)]
              repeat' (first | with_reducible refine ask.of (by first | omega | decide) ?_ | with_reducible refine ifB'.no (by omega) ?_ | with_reducible refine ifB'.yes (by omega) ?_ | simp -dsimp -implicitDefEqProofs only [go_sem, bl13, bl13b, bl13c, bl13d, bl6z, blZ, e1, e2, e5, e7, decide_true, decide_false, Bool.not_true, Bool.not_false, List.take_length])
              refine CallE.of (c_specLinkAcked x.o p.c hx.o hx.ob) (by rintro r rfl; (repeat' first | exact trivial | exact pure_rowB _ | exact pure_rowO _ | exact pure_rowI _ | exact pure_rowBB _ | exact pure_rowPk _ _ | exact pure_rowSn _ _ | exact pure_rowFd _ _ | exact pure_rowBBB _ | exact pure_rowCl _ _ | exact pure_rowTb _ _ _ | refine And.intro ?_ ?_)) (by simp -dsimp -implicitDefEqProofs only [go_sem, resL, loC]) ?_
              rintro r rfl
              simp -dsimp -implicitDefEqProofs only [go_sem, resL, loC]
              repeat' (first | with_reducible refine ask.of (by first | omega | decide) ?_ | with_reducible refine ifB'.no (by omega) ?_ | with_reducible refine ifB'.yes (by omega) ?_ | simp -dsimp -implicitDefEqProofs only [go_sem, bl13, bl13b, bl13c, bl13d, bl6z, blZ, e1, e2, e5, e7, decide_true, decide_false, Bool.not_true, Bool.not_false, List.take_length])
              refine CallE.of (c_l6tables (x.t.drop ((p.d - x.b) : Int).toNat) (Nat.le_trans (by simp) hx.t) (fun t ht => hx.tt t (List.mem_of_mem_drop ht))) (by rintro r rfl; (repeat' first | exact trivial | exact pure_rowB _ | exact pure_rowO _ | exact pure_rowI _ | exact pure_rowBB _ | exact pure_rowPk _ _ | exact pure_rowSn _ _ | exact pure_rowFd _ _ | exact pure_rowBBB _ | exact pure_rowCl _ _ | exact pure_rowTb _ _ _ | refine And.intro ?_ ?_)) (by simp -dsimp -implicitDefEqProofs only [go_sem, rowTb]) ?_
              rintro r rfl
              simp -dsimp -implicitDefEqProofs only [go_sem, rowTb]
              repeat' (first | with_reducible refine ask.of (by first | omega | decide) ?_ | with_reducible refine ifB'.no (by omega) ?_ | with_reducible refine ifB'.yes (by omega) ?_ | simp -dsimp -implicitDefEqProofs only [go_sem, bl13, bl13b, bl13c, bl13d, bl6z, blZ, e1, e2, e5, e7, decide_true, decide_false, Bool.not_true, Bool.not_false, List.take_length])
              rfl
        · by_cases d2 : p.d < x.b
          · have hkk : (p.d < x.b ∧ (0 : Int) = 0) ∨ (x.b ≤ p.d ∧ 0 = p.d - x.b) := by omega
            have e5 : IntKind.i64.wrap (x.b + 0) = x.b + 0 := wrap_i64_of (by omega) (by omega)
            have e7 : IntKind.i64.wrap (x.p - 0) = x.p - 0 := wrap_i64_of (by omega) (by omega)
            by_cases h6 : 1000000000 ≤ x.e
            · rw [takL_6 hok c1 c2 (by omega) h6]
              repeat' (first | with_reducible refine ask.of (by first | omega | decide) ?_ | with_reducible refine ifB'.no (by omega) ?_ | with_reducible refine ifB'.yes (by omega) ?_ | simp -dsimp -implicitDefEqProofs only [go_sem, bl13, bl13b, bl13c, bl13d, bl6z, blZ, e1, e2, e5, e7, decide_true, decide_false, Bool.not_true, Bool.not_false, List.take_length])
              rfl
            · have e6 : IntKind.i64.wrap (x.e + 1) = x.e + 1 := wrap_i64_of (by omega) (by omega)
              rw [takL_5 0 hkk hq.2.2.1 hok c1 c2 (by omega) h6]
              repeat' (first | with_reducible refine ask.of (by first | omega | decide) ?_ | with_reducible refine ifB'.no (by omega) ?_ | with_reducible refine ifB'.yes (by omega) ?_ | simp -dsimp -implicitDefEqProofs only [go_sem, bl13, bl13b, bl13c, bl13d, bl6z, blZ, e1, e2, e5, e6, e7, decide_true, decide_false, Bool.not_true, Bool.not_false, List.take_length])
              refine CallE.of (c_l6begin x.f (x.e + 1) (x.b + 0) (x.t.drop (0 : Int).toNat) hx.f hx.fb (Nat.le_trans (by simp) hx.t) (fun t ht => hx.tt t (List.mem_of_mem_drop ht))) (by rintro r rfl; (repeat' first | exact trivial | exact pure_rowB _ | exact pure_rowO _ | exact pure_rowI _ | exact pure_rowBB _ | exact pure_rowPk _ _ | exact pure_rowSn _ _ | exact pure_rowFd _ _ | exact pure_rowBBB _ | exact pure_rowCl _ _ | exact pure_rowTb _ _ _ | refine And.intro ?_ ?_)) (by simp -dsimp -implicitDefEqProofs only [go_sem, rowFd, rowTb, sdCi, sdC]) ?_
              rintro r rfl
              simp -dsimp -implicitDefEqProofs only [go_sem, rowFd, rowTb, sdCi, sdC]
              repeat' (first | with_reducible refine ask.of (by first | omega | decide) ?_ | with_reducible refine ifB'.no (by omega) ?_ | with_reducible refine ifB'.yes (by omega) ?_ | simp -dsimp -implicitDefEqProofs only [go_sem, bl13, bl13b, bl13c, bl13d, bl6z, blZ, e1, e2, e5, e6, e7, decide_true, decide_false, Bool.not_true, Bool.not_false, List.take_length])
              rfl
          · by_cases d3 : x.p < p.d - x.b
            · have hkk : (p.d < x.b ∧ ((p.d - x.b) : Int) = 0) ∨ (x.b ≤ p.d ∧ (p.d - x.b) = p.d - x.b) := by omega
              have e5 : IntKind.i64.wrap (x.b + (p.d - x.b)) = x.b + (p.d - x.b) := wrap_i64_of (by omega) (by omega)
              have e7 : IntKind.i64.wrap (x.p - (p.d - x.b)) = x.p - (p.d - x.b) := wrap_i64_of (by omega) (by omega)
              by_cases h6 : 1000000000 ≤ x.e
              · rw [takL_6 hok c1 c2 (by omega) h6]
                repeat' (first | with_reducible refine ask.of (by first | omega | decide) ?_ | with_reducible refine ifB'.no (by omega) ?_ | with_reducible refine ifB'.yes (by omega) ?_ | simp -dsimp -implicitDefEqProofs only [go_sem, bl13, bl13b, bl13c, bl13d, bl6z, blZ, e1, e2, e5, e7, decide_true, decide_false, Bool.not_true, Bool.not_false, List.take_length])
                rfl
              · have e6 : IntKind.i64.wrap (x.e + 1) = x.e + 1 := wrap_i64_of (by omega) (by omega)
                rw [takL_5 (p.d - x.b) hkk hq.2.2.1 hok c1 c2 (by omega) h6]
                repeat' (first | with_reducible refine ask.of (by first | omega | decide) ?_ | with_reducible refine ifB'.no (by omega) ?_ | with_reducible refine ifB'.yes (by omega) ?_ | simp -dsimp -implicitDefEqProofs only [go_sem, bl13, bl13b, bl13c, bl13d, bl6z, blZ, e1, e2, e5, e6, e7, decide_true, decide_false, Bool.not_true, Bool.not_false, List.take_length])
                refine CallE.of (c_l6begin x.f (x.e + 1) (x.b + (p.d - x.b)) (x.t.drop ((p.d - x.b) : Int).toNat) hx.f hx.fb (Nat.le_trans (by simp) hx.t) (fun t ht => hx.tt t (List.mem_of_mem_drop ht))) (by rintro r rfl; (repeat' first | exact trivial | exact pure_rowB _ | exact pure_rowO _ | exact pure_rowI _ | exact pure_rowBB _ | exact pure_rowPk _ _ | exact pure_rowSn _ _ | exact pure_rowFd _ _ | exact pure_rowBBB _ | exact pure_rowCl _ _ | exact pure_rowTb _ _ _ | refine And.intro ?_ ?_)) (by simp -dsimp -implicitDefEqProofs only [go_sem, rowFd, rowTb, sdCi, sdC]) ?_
                rintro r rfl
                simp -dsimp -implicitDefEqProofs only [go_sem, rowFd, rowTb, sdCi, sdC]
                repeat' (first | with_reducible refine ask.of (by first | omega | decide) ?_ | with_reducible refine ifB'.no (by omega) ?_ | with_reducible refine ifB'.yes (by omega) ?_ | simp -dsimp -implicitDefEqProofs only [go_sem, bl13, bl13b, bl13c, bl13d, bl6z, blZ, e1, e2, e5, e6, e7, decide_true, decide_false, Bool.not_true, Bool.not_false, List.take_length])
                rfl
            · have hkk : (p.d < x.b ∧ ((p.d - x.b) : Int) = 0) ∨ (x.b ≤ p.d ∧ (p.d - x.b) = p.d - x.b) := by omega
              have e5 : IntKind.i64.wrap (x.b + (p.d - x.b)) = x.b + (p.d - x.b) := wrap_i64_of (by omega) (by omega)
              have e7 : IntKind.i64.wrap (x.p - (p.d - x.b)) = x.p - (p.d - x.b) := wrap_i64_of (by omega) (by omega)
              by_cases h6 : 1000000000 ≤ x.e
              · rw [takL_6 hok c1 c2 (by omega) h6]
                repeat' (first | with_reducible refine ask.of (by first | omega | decide) ?_ | with_reducible refine ifB'.no (by omega) ?_ | with_reducible refine ifB'.yes (by omega) ?_ | simp -dsimp -implicitDefEqProofs only [go_sem, bl13, bl13b, bl13c, bl13d, bl6z, blZ, e1, e2, e5, e7, decide_true, decide_false, Bool.not_true, Bool.not_false, List.take_length])
                rfl
              · have e6 : IntKind.i64.wrap (x.e + 1) = x.e + 1 := wrap_i64_of (by omega) (by omega)
                rw [takL_5 (p.d - x.b) hkk hq.2.2.1 hok c1 c2 (by omega) h6]
                repeat' (first | with_reducible refine ask.of (by first | omega | decide) ?_ | with_reducible refine ifB'.no (by omega) ?_ | with_reducible refine ifB'.yes (by omega) ?_ | simp -dsimp -implicitDefEqProofs only [go_sem, bl13, bl13b, bl13c, bl13d, bl6z, blZ, e1, e2, e5, e6, e7, decide_true, decide_false, Bool.not_true, Bool.not_false, List.take_length])
                refine CallE.of (c_l6begin x.f (x.e + 1) (x.b + (p.d - x.b)) (x.t.drop ((p.d - x.b) : Int).toNat) hx.f hx.fb (Nat.le_trans (by simp) hx.t) (fun t ht => hx.tt t (List.mem_of_mem_drop ht))) (by rintro r rfl; (repeat' first | exact trivial | exact pure_rowB _ | exact pure_rowO _ | exact pure_rowI _ | exact pure_rowBB _ | exact pure_rowPk _ _ | exact pure_rowSn _ _ | exact pure_rowFd _ _ | exact pure_rowBBB _ | exact pure_rowCl _ _ | exact pure_rowTb _ _ _ | refine And.intro ?_ ?_)) (by simp -dsimp -implicitDefEqProofs only [go_sem, rowFd, rowTb, sdCi, sdC]) ?_
                rintro r rfl
                simp -dsimp -implicitDefEqProofs only [go_sem, rowFd, rowTb, sdCi, sdC]
                repeat' (first | with_reducible refine ask.of (by first | omega | decide) ?_ | with_reducible refine ifB'.no (by omega) ?_ | with_reducible refine ifB'.yes (by omega) ?_ | simp -dsimp -implicitDefEqProofs only [go_sem, bl13, bl13b, bl13c, bl13d, bl6z, blZ, e1, e2, e5, e6, e7, decide_true, decide_false, Bool.not_true, Bool.not_false, List.take_length])
                rfl
    · have c1' := c1
      unfold tkG at c1'
      have h2 : ¬ ((takM x p).2 = 0 ∨ (takM x p).2 = 5) := by rw [takM_old c1]; show ¬ ((4 : Int) = 0 ∨ (4 : Int) = 5); decide
      rw [takL_n hok h2, takM_old c1]
      repeat' (first | rfl | with_reducible refine ask.of (by first | omega | decide) ?_ | with_reducible refine ifB'.no (by omega) ?_ | with_reducible refine ifB'.yes (by omega) ?_ | ((with_reducible refine ifB'.of (fun _ => ?_) (fun _ => ?_)) <;> (try omega)) | simp -dsimp -implicitDefEqProofs only [go_sem, bl13, bl13b, bl13c, bl13d, bl6z, blZ])
      all_goals omega
  · rw [takL_c hok (by decide)]
    repeat' (first | with_reducible refine ask.of (by first | omega | decide) ?_ | with_reducible refine ifB'.yes (by omega) ?_ | simp -dsimp -implicitDefEqProofs only [go_sem, bl13, bl13b, bl6z, decide_true, decide_false, Bool.not_true, Bool.not_false])
    rfl
end Go.Ev
set_option linter.unusedSimpArgs false
set_option linter.unusedVariables false
namespace Go.Ev
open Go Go.RowKit Go.Proofs
theorem szL_sub {α : Type} {f : α → Nat} {l₁ l₂ : List α} (h : l₁.Sublist l₂) : szL f l₁ ≤ szL f l₂ := by
  induction h with
  | slnil => exact Nat.le_refl _
  | cons a h ih => simp only [szL, List.map_cons, List.sum_cons] at ih ⊢; omega
  | cons_cons a h ih => simp only [szL, List.map_cons, List.sum_cons] at ih ⊢; omega
theorem ackL_sub (x : LO) (q : Int) : (ackL x q).1.h.Sublist x.h := by
  by_cases h : okLO x ∧ 0 ≤ q ∧ q ≤ x.b
  · rw [ackL_yes h]; exact List.dropWhile_sublist _
  · rw [ackL_no h]; exact List.nil_sublist _
theorem tk_T {x : Sd} {p : Pk} (hx : SdT x) : SdT (tk2 (tk1 x p) p) ∧ szSd (tk2 (tk1 x p) p) ≤ szSd x ∧ (tk2 (tk1 x p) p).f = x.f ∧ (tk2 (tk1 x p) p).t.Sublist x.t := by
  have e0 := tk1_e x p
  have e1 : (tk2 (tk1 x p) p).f = x.f := (tk2_e _ _).2.trans e0.2.2.2.2
  have e2 : (tk2 (tk1 x p) p).t.Sublist x.t := by
    rw [← e0.2.2.2.1]
    unfold tk2
    split
    · exact List.drop_sublist _ _
    · exact List.Sublist.refl _
  have e3 : (tk2 (tk1 x p) p).s = x.s := by unfold tk2 tk1; split <;> split <;> rfl
  have e4 : (tk2 (tk1 x p) p).o.h.Sublist x.o.h := by
    have e : (tk2 (tk1 x p) p).o = (tk1 x p).o := by unfold tk2; split <;> rfl
    rw [e]
    unfold tk1
    split
    · exact ackL_sub _ _
    · exact List.Sublist.refl _
  refine ⟨⟨tk2_B (tk1_B hx.toSdB), fun t ht => hx.tt t (e2.subset ht), by rw [e3]; exact hx.sdl⟩, ?_, e1, e2⟩
  have h1 := szL_sub (f := szTb) e2
  have h2 := szL_sub (f := szSn) e4
  unfold szSd
  rw [e1, e3]
  omega
theorem takM_T {x : Sd} {p : Pk} (hx : SdT x) (hw : sdW x ≤ 1048576) : SdT (takM x p).1 ∧ szSd (takM x p).1 ≤ 33554432 := by
  have h1 := szSd_le2 x
  by_cases c1 : tkG x p
  · by_cases c2 : tkN x p
    · rw [takM_bad c1 c2]; exact ⟨hx, by show szSd x ≤ _; omega⟩
    · obtain ⟨h2, h3, h4, h5⟩ := tk_T (p := p) hx
      by_cases c3 : p.a = 3 ∨ x.p < p.d - x.b
      · rw [takM_ren c1 c2 c3]
        generalize tk2 (tk1 x p) p = y at *
        by_cases c4 : 1000000000 ≤ y.e
        · rw [renL_end c4]; exact ⟨h2, by show szSd y ≤ _; omega⟩
        · rw [renL_yes c4]
          have hd : sdW x = x.f.length + szL fdW x.f + (x.t.length + szL tbW x.t) + loW x.o + smW x.s := rfl
          have h6 := begL_T (fs := y.f) (e := y.e + 1) (b := y.b) (t := y.t) (by rw [h4]; omega) h2.t h2.tb h2.tt
          have h7 : szL szTb y.t ≤ szSd y := by unfold szSd; omega
          exact ⟨h6.1, Nat.le_trans h6.2 (by omega)⟩
      · rw [takM_ok c1 c2 c3]; exact ⟨h2, by show szSd (tk2 (tk1 x p) p) ≤ _; omega⟩
  · rw [takM_old c1]; exact ⟨hx, by show szSd x ≤ _; omega⟩
theorem takL_T {x : Sd} {p : Pk} {c : Int} (hx : SdT x) (hw : sdW x ≤ 1048576) : SdT (takL x p c).1 ∧ szSd (takL x p c).1 ≤ 33554432 := by
  have h1 := szSd_le2 x
  have hM := takM_T (p := p) hx hw
  by_cases h : okSd x
  · by_cases hc : c ≠ 0
    · rw [takL_c h hc]; exact ⟨hx, by show szSd x ≤ _; omega⟩
    · obtain rfl : c = 0 := by omega
      by_cases h2 : (takM x p).2 = 0 ∨ (takM x p).2 = 5
      · rw [takL_y h h2]; exact hM
      · rw [takL_n h h2]; exact ⟨hx, by show szSd x ≤ _; omega⟩
  · rw [takL_no h]; exact ⟨sdZ_T, by decide⟩
set_option maxRecDepth 8000 in
set_option maxHeartbeats 4000000 in
theorem c_FnExactSenderTake (x : Sd) (hp : SdO x) (b : List UInt8) : Meets Tryz.prog 4 [.agg (sdCl x), rowB b] (fun r => r = .v (.bool true)) := by
  refine Meets.introO mixed (hint []) (fun k => (sel (k == 13) [0,1,2,3,4] [])) Tryz.func4 rfl (by decide) res_4 rty_4 (by kernel_rfl) ?_; 
  simp -dsimp -implicitDefEqProofs only [go_sem, sdCl, sdC]
  repeat (first | with_reducible refine ask.of (by first | omega | decide) ?_ | simp -dsimp -implicitDefEqProofs only [go_sem, bl13, bl13b])
  refine ifB'.of (fun h => ?_) (fun h => ?_)
  · simp -dsimp -implicitDefEqProofs only [go_sem]
  have hb : b.length ≤ 1048576 := by omega
  repeat (first | with_reducible refine ask.of (by first | omega | decide) ?_ | simp -dsimp -implicitDefEqProofs only [go_sem, bl13, bl13b])
  refine CallE.of (c_szSender x 1048576 (by omega) hp) (by rintro r rfl; (repeat' first | exact trivial | exact pure_rowB _ | exact pure_rowO _ | exact pure_rowI _ | exact pure_rowBB _ | exact pure_rowPk _ _ | exact pure_rowSn _ _ | exact pure_rowFd _ _ | exact pure_rowBBB _ | exact pure_rowCl _ _ | exact pure_rowTb _ _ _ | refine And.intro ?_ ?_)) (by simp -dsimp -implicitDefEqProofs only [go_sem, sdCl, sdC]) ?_
  rintro r rfl
  simp -dsimp -implicitDefEqProofs only [go_sem, sdCl, sdC]
  refine ifB'.of (fun h => ?_) (fun h => ?_)
  · simp -dsimp -implicitDefEqProofs only [go_sem]
  have hw : sdW x ≤ 1048576 := Classical.byContradiction fun h' => h (by rw [szR_no h']; decide)
  have hx := sd_T hp hw
  have hsz := szSd_le2 x
  rcases hd : decP b with ⟨p, c0⟩
  have hs := c_specSenderTake x b p c0 hd hx hb
  have hi := c_implSenderTake x b p c0 hd hx hb
  have hy := takL_T (p := p) (c := c0) hx hw
  unfold resSI at hs hi
  generalize takL x p c0 = yc at *
  obtain ⟨y, c⟩ := yc
  simp only at hs hi hy
  obtain ⟨hy, hy0⟩ := hy
  repeat' (first
    | with_reducible refine ask.of (by omega) ?_
    | (refine CallE.of (hs) ?_ ?_ ?_; rotate_left; (· (simp -dsimp -implicitDefEqProofs only [go_sem, bl13, bl13b, sdCl, sdCi, sdC, mkSd, mkLo, mkSm, Bool.not_true, decide_true]; done)); rotate_left; (· (rintro r rfl; (repeat' first | exact trivial | exact pure_rowB _ | exact pure_rowO _ | exact pure_rowI _ | exact pure_rowBB _ | exact pure_rowPk _ _ | exact pure_rowSn _ _ | exact pure_rowFd _ _ | exact pure_rowBBB _ | exact pure_rowCl _ _ | exact pure_rowTb _ _ _ | refine And.intro ?_ ?_))); rintro r rfl; try simp -dsimp -implicitDefEqProofs only [go_sem, bl13, bl13b, sdCl, sdCi, sdC, mkSd, mkLo, mkSm, Bool.not_true, decide_true])
    | (refine CallE.of (hi) ?_ ?_ ?_; rotate_left; (· (simp -dsimp -implicitDefEqProofs only [go_sem, bl13, bl13b, sdCl, sdCi, sdC, mkSd, mkLo, mkSm, Bool.not_true, decide_true]; done)); rotate_left; (· (rintro r rfl; (repeat' first | exact trivial | exact pure_rowB _ | exact pure_rowO _ | exact pure_rowI _ | exact pure_rowBB _ | exact pure_rowPk _ _ | exact pure_rowSn _ _ | exact pure_rowFd _ _ | exact pure_rowBBB _ | exact pure_rowCl _ _ | exact pure_rowTb _ _ _ | refine And.intro ?_ ?_))); rintro r rfl; try simp -dsimp -implicitDefEqProofs only [go_sem, bl13, bl13b, sdCl, sdCi, sdC, mkSd, mkLo, mkSm, Bool.not_true, decide_true])
    | (refine CallE.of (c_toSender x hx) ?_ ?_ ?_; rotate_left; (· (simp -dsimp -implicitDefEqProofs only [go_sem, bl13, bl13b, sdCl, sdCi, sdC, mkSd, mkLo, mkSm, Bool.not_true, decide_true]; done)); rotate_left; (· (rintro r rfl; (repeat' first | exact trivial | exact pure_rowB _ | exact pure_rowO _ | exact pure_rowI _ | exact pure_rowBB _ | exact pure_rowPk _ _ | exact pure_rowSn _ _ | exact pure_rowFd _ _ | exact pure_rowBBB _ | exact pure_rowCl _ _ | exact pure_rowTb _ _ _ | refine And.intro ?_ ?_))); rintro r rfl; try simp -dsimp -implicitDefEqProofs only [go_sem, bl13, bl13b, sdCl, sdCi, sdC, mkSd, mkLo, mkSm, Bool.not_true, decide_true])
    | (refine CallE.of (c_toByteS b hb) ?_ ?_ ?_; rotate_left; (· (simp -dsimp -implicitDefEqProofs only [go_sem, bl13, bl13b, sdCl, sdCi, sdC, mkSd, mkLo, mkSm, Bool.not_true, decide_true]; done)); rotate_left; (· (rintro r rfl; (repeat' first | exact trivial | exact pure_rowB _ | exact pure_rowO _ | exact pure_rowI _ | exact pure_rowBB _ | exact pure_rowPk _ _ | exact pure_rowSn _ _ | exact pure_rowFd _ _ | exact pure_rowBBB _ | exact pure_rowCl _ _ | exact pure_rowTb _ _ _ | refine And.intro ?_ ?_))); rintro r rfl; try simp -dsimp -implicitDefEqProofs only [go_sem, bl13, bl13b, sdCl, sdCi, sdC, mkSd, mkLo, mkSm, Bool.not_true, decide_true])
    | (refine CallE.of (c_eqSender y hy) ?_ ?_ ?_; rotate_left; (· (simp -dsimp -implicitDefEqProofs only [go_sem, bl13, bl13b, sdCl, sdCi, sdC, mkSd, mkLo, mkSm, Bool.not_true, decide_true]; done)); rotate_left; (· (rintro r rfl; (repeat' first | exact trivial | exact pure_rowB _ | exact pure_rowO _ | exact pure_rowI _ | exact pure_rowBB _ | exact pure_rowPk _ _ | exact pure_rowSn _ _ | exact pure_rowFd _ _ | exact pure_rowBBB _ | exact pure_rowCl _ _ | exact pure_rowTb _ _ _ | refine And.intro ?_ ?_))); rintro r rfl; try simp -dsimp -implicitDefEqProofs only [go_sem, bl13, bl13b, sdCl, sdCi, sdC, mkSd, mkLo, mkSm, Bool.not_true, decide_true])
    | (refine CallE.of (c_eqSender x hx) ?_ ?_ ?_; rotate_left; (· (simp -dsimp -implicitDefEqProofs only [go_sem, bl13, bl13b, sdCl, sdCi, sdC, mkSd, mkLo, mkSm, Bool.not_true, decide_true]; done)); rotate_left; (· (rintro r rfl; (repeat' first | exact trivial | exact pure_rowB _ | exact pure_rowO _ | exact pure_rowI _ | exact pure_rowBB _ | exact pure_rowPk _ _ | exact pure_rowSn _ _ | exact pure_rowFd _ _ | exact pure_rowBBB _ | exact pure_rowCl _ _ | exact pure_rowTb _ _ _ | refine And.intro ?_ ?_))); rintro r rfl; try simp -dsimp -implicitDefEqProofs only [go_sem, bl13, bl13b, sdCl, sdCi, sdC, mkSd, mkLo, mkSm, Bool.not_true, decide_true])
    | (refine CallE.of (c_eqByteS b (by omega)) ?_ ?_ ?_; rotate_left; (· (simp -dsimp -implicitDefEqProofs only [go_sem, bl13, bl13b, sdCl, sdCi, sdC, mkSd, mkLo, mkSm, Bool.not_true, decide_true]; done)); rotate_left; (· (rintro r rfl; (repeat' first | exact trivial | exact pure_rowB _ | exact pure_rowO _ | exact pure_rowI _ | exact pure_rowBB _ | exact pure_rowPk _ _ | exact pure_rowSn _ _ | exact pure_rowFd _ _ | exact pure_rowBBB _ | exact pure_rowCl _ _ | exact pure_rowTb _ _ _ | refine And.intro ?_ ?_))); rintro r rfl; try simp -dsimp -implicitDefEqProofs only [go_sem, bl13, bl13b, sdCl, sdCi, sdC, mkSd, mkLo, mkSm, Bool.not_true, decide_true])
    | (refine CallE.mut (c_markSender x 1 (by omega) hx) (by simp -dsimp -implicitDefEqProofs only [go_sem]) ?_ ?_ ?_ ?_; rotate_left; (· (simp -dsimp -implicitDefEqProofs only [go_sem, bl13, bl13b, sdCl, sdCi, sdC, mkSd, mkLo, mkSm, Bool.not_true, decide_true]; done)); (· (simp -dsimp -implicitDefEqProofs only [go_sem, bl13, bl13b, sdCl, sdCi, sdC, mkSd, mkLo, mkSm, Bool.not_true, decide_true]; done)); rotate_left; (· (rintro r rs ⟨rfl, rfl⟩; exact ⟨by (repeat' first | exact trivial | exact pure_rowB _ | exact pure_rowO _ | exact pure_rowI _ | exact pure_rowBB _ | exact pure_rowPk _ _ | exact pure_rowSn _ _ | exact pure_rowFd _ _ | exact pure_rowBBB _ | exact pure_rowCl _ _ | exact pure_rowTb _ _ _ | refine And.intro ?_ ?_), by first | exact ⟨by (repeat' first | exact trivial | exact pure_rowB _ | exact pure_rowO _ | exact pure_rowI _ | exact pure_rowBB _ | exact pure_rowPk _ _ | exact pure_rowSn _ _ | exact pure_rowFd _ _ | exact pure_rowBBB _ | exact pure_rowCl _ _ | exact pure_rowTb _ _ _ | refine And.intro ?_ ?_), trivial⟩ | exact ⟨by (repeat' first | exact trivial | exact pure_rowB _ | exact pure_rowO _ | exact pure_rowI _ | exact pure_rowBB _ | exact pure_rowPk _ _ | exact pure_rowSn _ _ | exact pure_rowFd _ _ | exact pure_rowBBB _ | exact pure_rowCl _ _ | exact pure_rowTb _ _ _ | refine And.intro ?_ ?_), trivial, trivial⟩⟩)); rintro r rs ⟨rfl, rfl⟩; try simp -dsimp -implicitDefEqProofs only [go_sem, bl13, bl13b, sdCl, sdCi, sdC, mkSd, mkLo, mkSm, Bool.not_true, decide_true])
    | (refine CallE.mut (c_markSender y 1 (by omega) hy) (by simp -dsimp -implicitDefEqProofs only [go_sem]) ?_ ?_ ?_ ?_; rotate_left; (· (simp -dsimp -implicitDefEqProofs only [go_sem, bl13, bl13b, sdCl, sdCi, sdC, mkSd, mkLo, mkSm, Bool.not_true, decide_true]; done)); (· (simp -dsimp -implicitDefEqProofs only [go_sem, bl13, bl13b, sdCl, sdCi, sdC, mkSd, mkLo, mkSm, Bool.not_true, decide_true]; done)); rotate_left; (· (rintro r rs ⟨rfl, rfl⟩; exact ⟨by (repeat' first | exact trivial | exact pure_rowB _ | exact pure_rowO _ | exact pure_rowI _ | exact pure_rowBB _ | exact pure_rowPk _ _ | exact pure_rowSn _ _ | exact pure_rowFd _ _ | exact pure_rowBBB _ | exact pure_rowCl _ _ | exact pure_rowTb _ _ _ | refine And.intro ?_ ?_), by first | exact ⟨by (repeat' first | exact trivial | exact pure_rowB _ | exact pure_rowO _ | exact pure_rowI _ | exact pure_rowBB _ | exact pure_rowPk _ _ | exact pure_rowSn _ _ | exact pure_rowFd _ _ | exact pure_rowBBB _ | exact pure_rowCl _ _ | exact pure_rowTb _ _ _ | refine And.intro ?_ ?_), trivial⟩ | exact ⟨by (repeat' first | exact trivial | exact pure_rowB _ | exact pure_rowO _ | exact pure_rowI _ | exact pure_rowBB _ | exact pure_rowPk _ _ | exact pure_rowSn _ _ | exact pure_rowFd _ _ | exact pure_rowBBB _ | exact pure_rowCl _ _ | exact pure_rowTb _ _ _ | refine And.intro ?_ ?_), trivial, trivial⟩⟩)); rintro r rs ⟨rfl, rfl⟩; try simp -dsimp -implicitDefEqProofs only [go_sem, bl13, bl13b, sdCl, sdCi, sdC, mkSd, mkLo, mkSm, Bool.not_true, decide_true])
    | (refine CallE.mut (c_markByteS b (1 + szSd x) (by omega) (by omega)) (by simp -dsimp -implicitDefEqProofs only [go_sem]) ?_ ?_ ?_ ?_; rotate_left; (· (simp -dsimp -implicitDefEqProofs only [go_sem, bl13, bl13b, sdCl, sdCi, sdC, mkSd, mkLo, mkSm, Bool.not_true, decide_true]; done)); (· (simp -dsimp -implicitDefEqProofs only [go_sem, bl13, bl13b, sdCl, sdCi, sdC, mkSd, mkLo, mkSm, Bool.not_true, decide_true]; done)); rotate_left; (· (rintro r rs ⟨rfl, rfl⟩; exact ⟨by (repeat' first | exact trivial | exact pure_rowB _ | exact pure_rowO _ | exact pure_rowI _ | exact pure_rowBB _ | exact pure_rowPk _ _ | exact pure_rowSn _ _ | exact pure_rowFd _ _ | exact pure_rowBBB _ | exact pure_rowCl _ _ | exact pure_rowTb _ _ _ | refine And.intro ?_ ?_), by first | exact ⟨by (repeat' first | exact trivial | exact pure_rowB _ | exact pure_rowO _ | exact pure_rowI _ | exact pure_rowBB _ | exact pure_rowPk _ _ | exact pure_rowSn _ _ | exact pure_rowFd _ _ | exact pure_rowBBB _ | exact pure_rowCl _ _ | exact pure_rowTb _ _ _ | refine And.intro ?_ ?_), trivial⟩ | exact ⟨by (repeat' first | exact trivial | exact pure_rowB _ | exact pure_rowO _ | exact pure_rowI _ | exact pure_rowBB _ | exact pure_rowPk _ _ | exact pure_rowSn _ _ | exact pure_rowFd _ _ | exact pure_rowBBB _ | exact pure_rowCl _ _ | exact pure_rowTb _ _ _ | refine And.intro ?_ ?_), trivial, trivial⟩⟩)); rintro r rs ⟨rfl, rfl⟩; try simp -dsimp -implicitDefEqProofs only [go_sem, bl13, bl13b, sdCl, sdCi, sdC, mkSd, mkLo, mkSm, Bool.not_true, decide_true])
    | (refine CallE.of (c_heldSender y 1 (by omega) hy) ?_ ?_ ?_; rotate_left; (· (simp -dsimp -implicitDefEqProofs only [go_sem, bl13, bl13b, sdCl, sdCi, sdC, mkSd, mkLo, mkSm, Bool.not_true, decide_true]; done)); rotate_left; (· (rintro r rfl; (repeat' first | exact trivial | exact pure_rowB _ | exact pure_rowO _ | exact pure_rowI _ | exact pure_rowBB _ | exact pure_rowPk _ _ | exact pure_rowSn _ _ | exact pure_rowFd _ _ | exact pure_rowBBB _ | exact pure_rowCl _ _ | exact pure_rowTb _ _ _ | refine And.intro ?_ ?_))); rintro r rfl; try simp -dsimp -implicitDefEqProofs only [go_sem, bl13, bl13b, sdCl, sdCi, sdC, mkSd, mkLo, mkSm, Bool.not_true, decide_true])
    | with_reducible refine ifB'.no (by omega) ?_
    | simp -dsimp -implicitDefEqProofs only [go_sem, bl13, bl13b, sdCl, sdCi, sdC, mkSd, mkLo, mkSm, Bool.not_true, decide_true])
end Go.Ev
set_option linter.unusedSimpArgs false
set_option linter.unusedVariables false
namespace Go.Ev
open Go Go.RowKit
variable {P : Program}
theorem RepVs.shift {C : Cx} {cl : Bool} {o : Org} : ∀ {us : List AV} {vs : List Value} {q q' : Nat}, RepVs C cl (.read o) q us vs → RepVs C cl (.read o) q' us vs
  | [], vs, q, q', h => h
  | c :: cs, vs, q, q', h => by
    obtain ⟨y, ys, e, h1, h2⟩ := h
    exact ⟨y, ys, e, h1, RepVs.shift h2⟩
theorem RepVs.app {C : Cx} {cl : Bool} {o : Org} {bs : List AV} {ws : List Value} : ∀ {us : List AV} {vs : List Value} {q : Nat}, RepVs C cl (.read o) q us vs → RepVs C cl (.read o) 0 bs ws → RepVs C cl (.read o) q (us ++ bs) (vs ++ ws)
  | [], vs, q, h, h' => by
    have e : vs = [] := h
    rw [e]; exact h'.shift
  | c :: cs, vs, q, h, h' => by
    obtain ⟨y, ys, e, h1, h2⟩ := h
    exact ⟨y, ys ++ ws, by rw [e]; rfl, h1, RepVs.app h2 h'⟩
def OpensG (P : Program) (fs : List Field) (off tot : Nat) {α : Type} (enc : α → List AV) (inv : α → Prop) : Prop :=
  ∀ {H : Type} (eh : TypeId × Value → H) (W : World) (n : Nat) (cs : List Value) (xs : List (DataW H × List MemPlace)), cs.length = tot → xs.length = fs.length →
    (∀ (i : Nat) (f : Field), fs[i]? = some f → DataW.trod eh P W 0 (fun _ => true) true n f.type ((cs.drop f.offset).take (P.cellsOf f.type)) = xs[i]?) → (∀ m ∈ DataW.weightsEach P (fs.map (·.type)) (xs.map (·.1)), m ≤ reachBytes) →
    ∃ a : α, inv a ∧ RepVs (inC W) true (.read .ent) 0 (enc a) (cs.drop off)
theorem OpensG.nil {tot : Nat} : OpensG P [] tot tot (fun _ : Unit => []) (fun _ => True) := fun eh W n cs xs h _ _ _ => ⟨(), trivial, by rw [List.drop_of_length_le (by omega)]; rfl⟩
theorem OpensG.cons {f : Field} {fs : List Field} {off k tot : Nat} {α β : Type} {enc : α → List AV} {inv : α → Prop} {encs : β → List AV} {invs : β → Prop} (hoff : f.offset = off) (hk : P.cellsOf f.type = k) (h : Opens P f.type enc inv) (hs : OpensG P fs (off + k) tot encs invs) :
    OpensG P (f :: fs) off tot (fun p : α × β => enc p.1 ++ encs p.2) (fun p => inv p.1 ∧ invs p.2) := fun eh W n cs xs hl hx hf hw => by
  match xs, hx with
  | x :: xs, hx =>
    have h0 := hf 0 f rfl
    rw [hoff, hk] at h0
    obtain ⟨a, ha, hra⟩ := h eh W n _ x h0 (fun m hm => hw m (by simp only [List.map_cons, DataW.weightsEach, List.mem_append]; exact .inl hm))
    obtain ⟨b, hb, hrb⟩ := hs eh W n cs xs hl (by simpa using hx) (fun i g hg => by simpa using hf (i + 1) g (by simpa using hg)) (fun m hm => hw m (by simp only [List.map_cons, DataW.weightsEach, List.mem_append]; exact .inr hm))
    refine ⟨(a, b), ⟨ha, hb⟩, ?_⟩
    have e : cs.drop off = (cs.drop off).take k ++ cs.drop (off + k) := by rw [← List.drop_drop, List.take_append_drop]
    rw [e]
    exact hra.app hrb
theorem Opens.struct {t : TypeId} {fs : Array Field} {tot : Nat} (ht : P.underlying t = some (.struct fs)) (htot : P.cellsOf t = tot) {α : Type} {enc : α → List AV} {inv : α → Prop} (h : OpensG P fs.toList 0 tot enc inv) : Opens P t enc inv := fun eh W fuel cs x hx hw => by
  obtain ⟨xs, n, _, rfl, hl, hlen, hf⟩ := DataW.trod_struct ht hx
  obtain ⟨a, ha, hr⟩ := h eh W n cs xs (by rw [hl, htot]) (by simpa using hlen) (fun i f hi => hf i f (by simpa using hi)) (fun m hm => hw m (by simp only [DataW.weights, ht]; exact hm))
  exact ⟨a, ha, hr⟩
theorem Opens.map {t : TypeId} {α β : Type} {enc : α → List AV} {inv : α → Prop} {enc' : β → List AV} {inv' : β → Prop} (g : α → β) (he : ∀ a, enc' (g a) = enc a) (hi : ∀ a, inv a → inv' (g a)) (h : Opens P t enc inv) : Opens P t enc' inv' := fun eh W fuel cs x hx hw => by
  obtain ⟨a, ha, hr⟩ := h eh W fuel cs x hx hw
  exact ⟨g a, hi a ha, by rw [he]; exact hr⟩
end Go.Ev
