/- The evaluator, part 12: it is right. -/
import Derived.Test.YtjmmdlifljlogaaEvk
set_option linter.unusedVariables false
namespace Go.Ev
open Go Go.RowKit
section
variable {P : Program} {H : Nat → Nat} {W0 : World} {S F : Nat → Prop} {n : Nat} {L : Nat → Option Id} {m : Id → Value} {s : St} {a : Act} {w : World} {K : St → Prop}

theorem ES.wp {o : Oper} (h : ES P W0 S F n K o a w) (Q : Exit → Act → World → Prop) : o.wp P a w (Lift W0 S F n K) Q := by
  obtain ⟨v, w', s', hrun, hR, hK⟩ := h
  unfold Oper.wp
  rcases hrun with hrun | ⟨hrun, rfl⟩
  · rw [hrun]; exact ⟨s', hR, hK⟩
  · rw [hrun]; exact ⟨s', hR, hK⟩
theorem QS.wp {o : Oper} (h : QS P W0 S F n K o a w) (Q : Exit → Act → World → Prop) : o.wp P a w (Lift W0 S F n K) Q := by
  obtain ⟨v, s', hrun, hR, hK⟩ := h
  unfold Oper.wp
  rw [hrun]; exact ⟨s', hR, hK⟩
theorem e_store {o : Oper} {T : TypeId} {x y : Operand} (ho : o.op = .store T x y) (hd : dOk n o.dst) (R : RelC W0 S F n L m s a w) (h : opE P H o.dst (.store T x y) s K) : ES P W0 S F n K o a w := by
  obtain ⟨t, ht, hlen, h1⟩ := onSome.elim (show onSome _ _ from h)
  rcases onAdr.elim h1 with ⟨_, _, _, _, _, _, _, h2⟩ | ⟨id, sz', i, k, hv, h2⟩
  · exact h2.elim
  · rcases onOB.elim h2 with ⟨e, sz, els, hs, h3⟩ | ⟨t', cs, hs, h3⟩
    · obtain ⟨cs, hcs, h3⟩ := onSome.elim h3
      obtain ⟨⟨vs, I⟩, hcl, ⟨hsz, hk, hind, hh⟩, h4⟩ := onSome.elim h3
      have hsz : sz = sz' := hsz
      subst hsz
      exact e_store_row ho hd R ht hv hs hcs hcl hlen hk hind hh h4
    · obtain ⟨⟨hi, hk, hok⟩, h4⟩ := h3
      have hi : i = 0 := hi
      subst hi
      exact e_store_box ho hd R ht hv hs hlen hk hok h4
theorem op_sound {o : Oper} (hd : dOk n o.dst) (R : RelC W0 S F n L m s a w) (h : opE P H o.dst o.op s K) (Q : Exit → Act → World → Prop) : o.wp P a w (Lift W0 S F n K) Q := by
  by_cases hq : quietOp o.op = true
  · exact (quiet_sound hq hd R h).wp Q
  · cases ho : o.op with
    | store T x y => rw [ho] at h; exact (e_store ho hd R h).wp Q
    | makeSlice T x y => rw [ho] at h; exact (e_make ho hd R h).wp Q
    | buildSlice T l ps => rw [ho] at h; exact (e_build ho hd R h).wp Q
    | box T x => rw [ho] at h; exact (e_box ho hd R h).wp Q
    | alloc T => rw [ho] at h; exact (e_alloc ho hd R h).wp Q
    | call c =>
      rw [ho] at h hq
      obtain ⟨callee, args, tys⟩ := c
      have h' : callOp P H o.dst ⟨callee, args, tys⟩ s K := h
      unfold callOp at h'
      split at h'
      · rename_i e
        have e' : callee = _ := e
        subst e'
        exact call_sound ho hd R h' Q
      · rename_i e1 e2 e3
        have e1' : callee = _ := e1
        subst e1'; simp [quietOp] at hq
      · rename_i e1 e2 e3
        have e1' : callee = _ := e1
        have e2' : args = _ := e2
        have e3' : tys = _ := e3
        subst e1'; subst e2'; subst e3'
        exact (e_appendOp ho hd R h).wp Q
      · rename_i e1 e2
        have e1' : callee = _ := e1
        subst e1'; simp [quietOp] at hq
      · exact h'.elim
    | _ => rw [ho] at h hq; first | exact (hq rfl).elim | exact False.elim h

/-! ### guards -/
theorem RelC.setEnv (R : RelC W0 S F n L m s a w) {d : Nat} {x : AV} (h : Rep (cx w S F L m s.σ) false (.read .ent) x (a.tmps.getD d undef)) : RelC W0 S F n L m (s.put (some d) x) a w := by
  refine ⟨R.size, R.defers, fun k => ?_, R.obj, R.lab, R.ind, R.old, R.below⟩
  show Rep (cx w S F L m s.σ) false (.read .ent) (upd s.env d x k) (a.tmps.getD k undef)
  unfold upd
  by_cases e : k = d
  · subst e
    rw [show (k == k) = true by simp]
    exact h
  · rw [show (k == d) = false by simpa using e]
    exact R.env k
theorem guard_cases {ops : Array Oper} {o : Oper} {l : List SOp} {Q' : St → Prop} (R : RelC W0 S F n L m s a w) (h : opsE P H (strip ops o :: l) s Q') :
    (Region.wanted o (yielded ops a.tmps) = true ∧ ∃ s', RelC W0 S F n L m s' a w ∧ opE P H o.dst o.op s' (fun s' => opsE P H l s' Q')) ∨
    (Region.wanted o (yielded ops a.tmps) = false ∧ ∃ s', RelC W0 S F n L m s' a w ∧ opsE P H l (s'.put o.dst .any) Q') := by
  cases hg : o.guard with
  | none =>
    rw [show strip ops o = ⟨o.dst, o.op, none⟩ by simp [strip, hg, gOf]] at h
    exact .inl ⟨by simp [Region.wanted, hg], s, R, h⟩
  | some g =>
    obtain ⟨j, want⟩ := g
    cases hc : (ops[j]?).bind (·.dst) with
    | none =>
      rw [show strip ops o = ⟨o.dst, o.op, some (none, want)⟩ by simp [strip, hg, gOf, hc]] at h
      exact False.elim h
    | some c =>
      rw [show strip ops o = ⟨o.dst, o.op, some (some c, want)⟩ by simp [strip, hg, gOf, hc]] at h
      obtain ⟨t, ht, h1⟩ := onBool.elim (show onBool _ _ from h)
      have hR := R.env c
      rw [ht] at hR
      have hv : a.tmps.getD c undef = .bool t := hR.1
      have hv' : a.tmps[c]? = some (.bool t) := by
        cases hx : a.tmps[c]? with
        | none => simp [Array.getD_eq_getD_getElem?, hx, undef] at hv
        | some x => simp [Array.getD_eq_getD_getElem?, hx] at hv; rw [hv]
      have hw : Region.wanted o (yielded ops a.tmps) = (t == want) := by
        simp [Region.wanted, hg, yielded, hc, hv']
      cases htw : (t == want) with
      | true =>
        have : t = want := by simpa using htw
        subst this
        exact .inl ⟨by rw [hw, htw], _, R.setEnv (x := .v (.bool t)) ⟨hv, trivial⟩, h1.1 htw⟩
      | false =>
        have : t = !want := by cases t <;> cases want <;> simp_all
        subst this
        exact .inr ⟨by rw [hw, htw], _, R.setEnv (x := .v (.bool !want)) ⟨hv, trivial⟩, h1.2 htw⟩

theorem Oper.wp_mono {o : Oper} {a : Act} {w : World} {K K' : Act → World → Prop} {Q : Exit → Act → World → Prop} (hK : ∀ a w, K a w → K' a w) (h : o.wp P a w K Q) : o.wp P a w K' Q := by
  unfold Oper.wp at *
  generalize (execOp a.eval o).run P w = r at *
  cases r with
  | ok nx w' =>
    cases nx with
    | value v => exact hK _ _ h
    | skip => exact hK _ _ h
    | defer d => exact hK _ _ h
    | enter f args => exact Calls.mono h fun e w'' hh => by cases e with | returned v => exact hK _ _ hh | panicked c => exact hh | outgrown => exact hh
    | row r args => exact Rows.mono h fun v w'' hh => hK _ _ hh
    | _ => exact h
  | halt x w' => cases x <;> exact h

theorem ops_sound {ops : Array Oper} {Q : Exit → Act → World → Prop} : ∀ (l : List Oper) {s : St} {a : Act} {w : World}, (∀ o ∈ l, dOk n o.dst) → Rel W0 S F n s a w → opsE P H (stripL ops l) s K → (∀ s a w, Rel W0 S F n s a w → K s → Q .normal a w) → wpList P ops Q l a w
  | [], s, a, w, _, hR, h, hQ => hQ s a w hR h
  | o :: l, s, a, w, hd, ⟨L, m, R⟩, h, hQ => by
    rw [wpList]
    rcases guard_cases R h with ⟨hw, s', R', h1⟩ | ⟨hw, s', R', h1⟩
    · rw [if_pos hw]
      left
      refine Oper.wp_mono (fun a' w' hh => ?_) (op_sound (hd o (by simp)) R' h1 Q)
      obtain ⟨s2, R2, h2⟩ := hh
      exact ops_sound l (fun o ho => hd o (by simp [ho])) R2 h2 hQ
    · rw [if_neg (by rw [hw]; simp)]
      exact ops_sound l (fun o ho => hd o (by simp [ho])) ⟨L, m, R'.put (hd o (by simp)) (x := .any) trivial⟩ h1 hQ
theorem still_sound {ops : Array Oper} {Q : Act → Prop} : ∀ (l : List Oper) {s : St} {a : Act} {w : World}, (∀ o ∈ l, dOk n o.dst ∧ quietOp o.op = true) → Rel W0 S F n s a w → opsE P H (stripL ops l) s K → (∀ s a, Rel W0 S F n s a w → K s → Q a) → wpStill P ops w Q l a
  | [], s, a, w, _, hR, h, hQ => hQ s a hR h
  | o :: l, s, a, w, hd, ⟨L, m, R⟩, h, hQ => by
    rw [wpStill]
    rcases guard_cases R h with ⟨hw, s', R', h1⟩ | ⟨hw, s', R', h1⟩
    · rw [if_pos hw]
      obtain ⟨v, s2, hrun, R2, h2⟩ := quiet_sound (hd o (by simp)).2 (hd o (by simp)).1 R' h1
      unfold Oper.still
      rw [hrun, Oper.stillUpon_value]
      exact still_sound l (fun o ho => hd o (by simp [ho])) R2 h2 hQ
    · rw [if_neg (by rw [hw]; simp)]
      exact still_sound l (fun o ho => hd o (by simp [ho])) ⟨L, m, R'.put (hd o (by simp)).1 (x := .any) trivial⟩ h1 hQ
theorem opsE_append {ops : Array Oper} : ∀ (l1 l2 : List Oper) (K : St → Prop), (fun s => opsE P H (stripL ops (l1 ++ l2)) s K) = fun s => opsE P H (stripL ops l1) s (fun s' => opsE P H (stripL ops l2) s' K)
  | [], l2, K => rfl
  | o :: l1, l2, K => by
    have ih := opsE_append (ops := ops) l1 l2 K
    funext s
    show opsE P H (strip ops o :: stripL ops (l1 ++ l2)) s K = opsE P H (strip ops o :: stripL ops l1) s _
    have e : ∀ s, opsE P H (stripL ops (l1 ++ l2)) s K = opsE P H (stripL ops l1) s (fun s' => opsE P H (stripL ops l2) s' K) := fun s => congrFun ih s
    generalize strip ops o = so
    obtain ⟨d, op, g⟩ := so
    match g with
    | none => simp only [opsE, ih]
    | some (none, _) => rfl
    | some (some c, want) => simp only [opsE, ih, e]
theorem take_quiet {q : Op → Bool} : ∀ (l : List Oper), ∀ o ∈ l.take (l.takeWhile fun o => q o.op).length, q o.op = true
  | [], o, h => by simp at h
  | x :: l, o, h => by
    rw [List.takeWhile_cons] at h
    split at h
    · rename_i hx
      simp only [List.length_cons, List.take_succ_cons, List.mem_cons] at h
      rcases h with rfl | h
      · exact hx
      · exact take_quiet l o h
    · simp at h

/-! ### code -/
def exOf : Ex → Exit
  | .normal => .normal
  | .exit i => .exit i
  | .ret => .ret
theorem awp_sound (hm : P.follows .mixedOrders = true) : ∀ (c : Code) {s : St} {a : Act} {w : World} {Qa : Ex → St → Prop} {Q : Exit → Act → World → Prop}, wfCode n c = true → Rel W0 S F n s a w → awp P H c s Qa → (∀ e s a w, Rel W0 S F n s a w → Qa e s → Q (exOf e) a w) → c.wp P Q a w
  | .skip, s, a, w, Qa, Q, hw, hR, h, hQ => wp_skip (hQ .normal s a w hR h)
  | .exit i, s, a, w, Qa, Q, hw, hR, h, hQ => wp_exit (hQ (.exit i) s a w hR h)
  | .ret, s, a, w, Qa, Q, hw, hR, h, hQ => wp_ret (hQ .ret s a w hR h)
  | .seq x y, s, a, w, Qa, Q, hw, hR, h, hQ => by
    simp only [wfCode, Bool.and_eq_true] at hw
    refine wp_seq (awp_sound hm x hw.1 hR h fun e s a w hR he => ?_)
    cases e with
    | normal => exact awp_sound hm y hw.2 hR he hQ
    | exit i => exact hQ (.exit i) s a w hR he
    | ret => exact hQ .ret s a w hR he
  | .cond c x y, s, a, w, Qa, Q, hw, hR, h, hQ => by
    simp only [wfCode, Bool.and_eq_true] at hw
    obtain ⟨L, m, R⟩ := hR
    obtain ⟨t, ht, h1⟩ := onBool.elim (show onBool _ _ from h)
    have hc := R.ev c
    rw [ht] at hc
    exact wp_cond_split hc.1 (fun ht => awp_sound hm x hw.1 ⟨L, m, R⟩ (h1.1 ht) hQ) (fun ht => awp_sound hm y hw.2 ⟨L, m, R⟩ (h1.2 ht) hQ)
  | .block i c, s, a, w, Qa, Q, hw, hR, h, hQ => by
    refine wp_block (awp_sound hm c hw hR h fun e s a w hR he => ?_)
    cases e with
    | normal => exact hQ .normal s a w hR he
    | ret => exact hQ .ret s a w hR he
    | exit j =>
      show if j = i then Q .normal a w else Q (.exit j) a w
      have he : sel (j == i) (Qa .normal s) (Qa (.exit j) s) := he
      by_cases e : j = i
      · subst e
        rw [if_pos rfl]
        rw [show (j == j) = true by simp] at he
        exact hQ .normal s a w hR he
      · rw [if_neg e]
        rw [show (j == i) = false by simpa using e] at he
        exact hQ (.exit j) s a w hR he
  | .loop c, s, a, w, Qa, Q, hw, hR, h, hQ => by
    obtain ⟨I, k, hI, hround⟩ := h
    refine wp_loop_ghost (fun k a w => ∃ s, Rel W0 S F n s a w ∧ I k s) k ⟨s, hR, hI⟩ fun k a w ⟨s, hR, hI⟩ => ?_
    refine awp_sound hm c (by simpa [wfCode] using hw) hR (hround k s hI) fun e s a w hR he => ?_
    cases e with
    | normal => obtain ⟨k', h1, h2⟩ := he; exact ⟨k', h1, s, hR, h2⟩
    | exit i => exact hQ (.exit i) s a w hR he
    | ret => exact hQ .ret s a w hR he
  | .region i ops draw, s, a, w, Qa, Q, hw, hR, h, hQ => by
    have h : opsE P H (stripL ops ops.toList) s (Qa .normal) := h
    simp only [wfCode, Bool.and_eq_true, Bool.or_eq_true, Bool.not_eq_true'] at hw
    obtain ⟨hd, hdraw⟩ := hw
    have hd' : ∀ o ∈ ops.toList, dOk n o.dst := fun o ho => by
      have := (Array.all_eq_true'.1 hd) o (by simpa using ho)
      unfold dOk
      split at this <;> simp_all
    cases draw with
    | false => exact wp_region_list (ops_sound ops.toList hd' hR h fun s a w => hQ .normal s a w)
    | true =>
      obtain ⟨L, m, R⟩ := hR
      rcases hdraw with (hdraw | hdraw) | hdraw
      · cases hdraw
      · refine wp_region_still hm hdraw.1 (still_sound ops.toList (fun o ho => ⟨hd' o ho, (Array.all_eq_true'.1 hdraw.2) o (by simpa using ho)⟩) ⟨L, m, R.drew⟩ h fun s a hR hK => hQ .normal s a _ hR hK)
      · have e : ops = ops.toList.toArray := by simp
        have key : (Code.region i ops.toList.toArray true).wp P Q a w := by
          refine wp_region_still_tail (quietN ops quietOp) hm (by rw [← e]; exact hdraw) ?_
          rw [← e]
          have h2 : opsE P H (stripL ops (ops.toList.take (quietN ops quietOp) ++ ops.toList.drop (quietN ops quietOp))) s (Qa .normal) := by rw [List.take_append_drop]; exact h
          have h3 := (congrFun (opsE_append (P := P) (H := H) (ops := ops) (ops.toList.take (quietN ops quietOp)) (ops.toList.drop (quietN ops quietOp)) (Qa .normal)) s).mp h2
          exact still_sound _ (fun o ho => ⟨hd' o (List.mem_of_mem_take ho), take_quiet ops.toList o ho⟩) ⟨L, m, R.drew⟩ h3 fun s a hR hK => ops_sound _ (fun o ho => hd' o (List.mem_of_mem_drop ho)) hR hK fun s a w => hQ .normal s a w
        rwa [← e] at key
  | .goto _, _, _, _, _, _, _, _, h, _ => False.elim h
  | .label _, _, _, _, _, _, _, _, h, _ => False.elim h
  | .scope .., _, _, _, _, _, _, _, h, _ => False.elim h
  | .refuse _, _, _, _, _, _, _, _, h, _ => False.elim h
end
end Go.Ev
