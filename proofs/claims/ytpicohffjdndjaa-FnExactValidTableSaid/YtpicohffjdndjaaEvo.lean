/- The evaluator, part 15: regions that draw their order. -/
import Derived.Test.YtpicohffjdndjaaEvl
import Derived.OrdersHeld
set_option linter.unusedVariables false
set_option linter.unusedSimpArgs false
namespace Go.Ev
open Go Go.RowKit
section
variable {P : Program} {ops : Array Oper} {Q : Exit → Act → World → Prop} {md : Region.Mode} {T : Nat → World → World → Prop}
/-- Whatever order is picked from here on; T says of each operation what it does to the world. -/
def wpAnyL (P : Program) (md : Region.Mode) (ops : Array Oper) (Q : Exit → Act → World → Prop) (T : Nat → World → World → Prop) : Nat → Array Bool → Act → World → Prop
  | 0, listed, a, w => Region.ready md ops listed = [] ∧ Q .normal a w
  | fuel + 1, listed, a, w => (Region.ready md ops listed = [] → Q .normal a w) ∧
    ∀ i ∈ Region.ready md ops listed, wpOp P ops Q i (fun a' w' => T i w w' ∧ wpAnyL P md ops Q T fuel (listed.setIfInBounds i true) a' w') a w
theorem wpAny_of_L : ∀ (fuel : Nat) (listed : Array Bool) (a : Act) (w : World), wpAnyL P md ops Q T fuel listed a w → wpAny P md ops Q fuel listed a w
  | 0, _, _, _, h => h
  | fuel + 1, _, _, _, h => ⟨h.1, fun i hi => wpOp_mono (fun a' w' h' => wpAny_of_L fuel _ a' w' h'.2) (h.2 i hi)⟩
/-- What has come up, with all that it waited for. -/
def Closed (md : Region.Mode) (ops : Array Oper) (listed : Array Bool) : Prop :=
  ∀ j oj, ops[j]? = some oj → listed.getD j false = true → ∀ e ∈ oj.after, Region.binds md e = true → listed.getD e.on false = true
theorem Closed.set {listed : Array Bool} (h : Closed md ops listed) {i : Nat} (hi : i ∈ Region.ready md ops listed) : Closed md ops (listed.setIfInBounds i true) := by
  obtain ⟨_, oi, hoi, hall⟩ := mem_ready.1 hi
  intro j oj hj hl e he hb
  by_cases hij : i = j
  · subst hij
    obtain rfl := Option.some.inj (hj.symm.trans hoi)
    exact getD_set_true (hall e he hb)
  · refine getD_set_true (h j oj hj ?_ e he hb)
    rwa [getD_set_ne false hij] at hl
theorem wpAnyL_first {i : Nat} {oi : Oper} {v : Value} {S0 : World → Prop} (hi : ops[i]? = some oi) (hsel : ∀ (j : Nat) (o : Oper) cs b, ops[j]? = some o → o.op ≠ .select cs b)
    (hQ : ∀ c a w, Q (.panic c) (a.put oi.dst v) w → Q (.panic c) a w)
    (hT : ∀ w, T i w w) (hstep : ∀ j l w w', Closed md ops l → l.getD j false = true → l.getD i true = false → T j w w' → S0 w → S0 w') :
    ∀ (fuel : Nat) (listed : Array Bool) (a : Act) (w : World), Closed md ops listed →
      (∀ j oj, ops[j]? = some oj → j ≠ i → listed.getD j true = false → (∀ e ∈ oj.after, Region.binds md e = true → e.on ≠ i) → oi.apart ops oj = true) →
      i ∈ Region.ready md ops listed → YieldsIf P ops S0 oi v a → S0 w →
      wpAnyL P md ops Q T fuel (listed.setIfInBounds i true) (a.put oi.dst v) w → wpAnyL P md ops Q T (fuel + 1) listed a w := by
  intro fuel
  induction fuel with
  | zero =>
    intro listed a w hcl _ hr hy hS H
    refine ⟨fun h => (by rw [h] at hr; cases hr), fun j hj => ?_⟩
    by_cases hji : j = i
    · subst hji
      exact hy.wpOp hi hS ⟨hT w, H⟩
    · have := ready_mono hj hji
      rw [H.1] at this
      cases this
  | succ fuel ih =>
    intro listed a w hcl hfree hr hy hS H
    refine ⟨fun h => (by rw [h] at hr; cases hr), fun j hj => ?_⟩
    by_cases hji : j = i
    · subst hji
      exact hy.wpOp hi hS ⟨hT w, H⟩
    · have h1 := H.2 j (ready_mono hj hji)
      obtain ⟨hjun, oj, hoj, hall⟩ := mem_ready.1 hj
      have hnot : ∀ e ∈ oj.after, Region.binds md e = true → e.on ≠ i := fun e he hb heq => by
        have h2 := hall e he hb
        have h0 := (mem_ready.1 hr).1
        rw [heq] at h2
        rcases Nat.lt_or_ge i listed.size with h' | h'
        · simp [h'] at h0 h2; rw [h0] at h2; cases h2
        · simp [Array.getElem?_eq_none h'] at h2
      have h2 := wpOp_putIf hoj (hfree j oj hoj hji hjun hnot) (fun cs b => hsel i oi cs b hi) (fun cs b => hsel j oj cs b hoj) hQ hy h1
      have hfree' : ∀ k ok, ops[k]? = some ok → k ≠ i → (listed.setIfInBounds j true).getD k true = false →
          (∀ e ∈ ok.after, Region.binds md e = true → e.on ≠ i) → oi.apart ops ok = true := fun k ok hk hki hun hno => by
        refine hfree k ok hk hki ?_ hno
        by_cases hjk : j = k
        · subst hjk; exact hjun
        · rwa [getD_set_ne true hjk] at hun
      refine wpOp_mono (fun a' w' h3 => ?_) h2
      obtain ⟨hy', hT', hK⟩ := h3
      rw [Array.setIfInBounds_comm _ _ (Ne.symm hji)] at hK
      have hlj : (listed.setIfInBounds j true).getD j false = true := by
        rcases Nat.lt_or_ge j listed.size with h' | h'
        · simp [h']
        · simp [Array.getElem?_eq_none h'] at hjun
      have hli : (listed.setIfInBounds j true).getD i true = false := by
        rw [getD_set_ne true hji]; exact (mem_ready.1 hr).1
      exact ⟨hT', ih (listed.setIfInBounds j true) a' w' (hcl.set hj) hfree' (ready_mono hr (Ne.symm hji)) hy' (hstep j _ w w' (hcl.set hj) hlj hli hT' hS) hK⟩
theorem Closed.waits {listed : Array Bool} (h : Closed md ops listed) {e i : Nat} (he : listed.getD e false = true) (hw : Region.waitsFor md ops e i = true) : listed.getD i false = true := by
  obtain ⟨oj, hj, x, hx, hb, rfl⟩ := Region.waitsFor_spec hw
  exact h e oj hj he x hx hb
theorem Closed.anc {listed : Array Bool} (h : Closed md ops listed) : ∀ {f e i : Nat}, ancB md ops f e i = true → listed.getD e false = true → listed.getD i false = true
  | 0, _, _, ha, _ => by cases ha
  | f + 1, e, i, ha, he => by
    simp only [ancB, Bool.or_eq_true, List.any_eq_true, Bool.and_eq_true] at ha
    rcases ha with ha | ⟨j, _, h1, h2⟩
    · exact h.waits he ha
    · exact Closed.anc h h2 (h.waits he h1)
end
def stepT (ops : Array Oper) (j : Nat) (w w' : World) : Prop :=
  match ops[j]? with
  | some oj => growOp oj.op = true → Grows w w'
  | none => Grows w w'
theorem Grows.trans {a b c : World} (h : Grows a b) (k : Grows b c) : Grows a c := ⟨Nat.le_trans h.size k.size, fun x hx => (k.block x (Nat.lt_of_lt_of_le hx h.size)).trans (h.block x hx)⟩
theorem stepT_refl (ops : Array Oper) (j : Nat) (w : World) : stepT ops j w w := by
  unfold stepT
  split
  · exact fun _ => Grows.refl w
  · exact Grows.refl w
section
variable {P : Program} {H : Nat → Nat} {W0 : Bs} {S F : Nat → Prop} {n : Nat} {K : St → Prop} {ops : Array Oper}
theorem draw_sound {Q : Exit → Act → World → Prop} (hH : H 1000000 = 1) (hsel : Region.noSelect ops = true) (hlo : loadsOk ops = true) (hpan : ∀ c a w, ¬ Q (.panic c) a w) : ∀ (π : List Nat) {listed : Array Bool} {s : St} {a : Act} {w : World}, drawOk ops π listed = true → Closed .any ops listed →
    (∀ o ∈ ops.toList, dOk n o.dst) → Rel W0 S F n s a w → opsE P H (stripL ops (opsAt ops π)) s K → (∀ s a w, Rel W0 S F n s a w → K s → Q .normal a w) → wpAnyL P .any ops Q (stepT ops) π.length listed a w
  | [], listed, s, a, w, hd, hcl, hdst, hR, h, hQ => ⟨by simpa [drawOk] using hd, hQ s a w hR h⟩
  | i :: π, listed, s, a, w, hd, hcl, hdst, ⟨L, m, R⟩, h, hQ => by
    simp only [drawOk, Bool.and_eq_true] at hd
    obtain ⟨⟨hrd, hcase⟩, hrest⟩ := hd
    have hrd' : i ∈ Region.ready .any ops listed := by simpa using hrd
    cases ho : ops[i]? with
    | none => rw [ho] at hcase; cases hcase
    | some o =>
      rw [ho] at hcase
      simp only [Bool.or_eq_true, Bool.and_eq_true, beq_iff_eq] at hcase
      have hmem : o ∈ ops.toList := by
        have := Array.mem_of_getElem? ho
        simpa using this
      have e : opsAt ops (i :: π) = o :: opsAt ops π := by simp [opsAt, ho]
      rw [e] at h
      rcases guard_cases R h with ⟨hw, s', R', h1⟩ | ⟨hw, s', R', h1⟩
      · by_cases hq : quietOp o.op = true ∧ Region.free .any ops listed i = true
        · obtain ⟨v, s2, hrun, R2, h2⟩ := quiet_sound hq.1 (hdst o hmem) R' h1
          refine wpAnyL_first (S0 := fun w' => Gr (memFree o.op) w w') ho (Region.noSelect_spec hsel) (fun c a w hp => absurd hp (hpan _ _ _)) (stepT_refl ops i) (fun j l w1 w2 hc hj hi' hT hS => ?_) π.length listed a w hcl (Region.free_spec ho hq.2) hrd' (.inl ⟨hw, hrun⟩) (.inr (Grows.refl w))
            (draw_sound hH hsel hlo hpan π hrest (hcl.set hrd') hdst R2 h2 hQ)
          rcases hS with hS | hS
          · exact .inl hS
          · by_cases hmf : memFree o.op = true
            · exact .inl hmf
            · right
              refine hS.trans ?_
              unfold stepT at hT
              cases hoj : ops[j]? with
              | none => rw [hoj] at hT; exact hT
              | some oj =>
                rw [hoj] at hT
                by_cases hg : growOp oj.op = true
                · exact hT hg
                · have hi1 : i < ops.size := (Array.getElem?_eq_some_iff.1 ho).1
                  have hj1 : j < ops.size := (Array.getElem?_eq_some_iff.1 hoj).1
                  have hl := List.all_eq_true.1 (List.all_eq_true.1 hlo i (List.mem_range.2 hi1)) j (List.mem_range.2 hj1)
                  simp only [ho, hoj, hq.1] at hl
                  simp [hmf, hg] at hl
                  have := hc.anc hl hj
                  rw [← Bool.not_eq_true] at hi'
                  exfalso
                  rcases Nat.lt_or_ge i l.size with h' | h'
                  · simp [h'] at this hi'; rw [this] at hi'; cases hi'
                  · simp [Array.getElem?_eq_none h'] at this
        · have hone : Region.ready .any ops listed = [i] := by
            rcases hcase with hc | hc
            · exact absurd hc hq
            · exact hc
          refine ⟨fun h0 => (by rw [hone] at h0; cases h0), fun j hj => ?_⟩
          rw [hone] at hj
          obtain rfl : j = i := by simpa using hj
          unfold wpOp
          simp only [ho, hw, if_true]
          left
          refine Oper.wp_mono (fun a' w' hh => ?_) (op_sound (hdst o hmem) R' h1 Q)
          obtain ⟨⟨s2, R2, h2⟩, hG⟩ := hh
          exact ⟨by unfold stepT; rw [ho]; exact hG hH, draw_sound hH hsel hlo hpan π hrest (hcl.set hrd') hdst R2 h2 hQ⟩
      · have R2 := R'.put (hdst o hmem) (x := .tup []) (v := undef) ⟨#[], rfl, rfl⟩
        by_cases hq : quietOp o.op = true ∧ Region.free .any ops listed i = true
        · exact wpAnyL_first (S0 := fun _ => True) ho (Region.noSelect_spec hsel) (fun c a w hp => absurd hp (hpan _ _ _)) (stepT_refl ops i) (fun _ _ _ _ _ _ _ _ _ => trivial) π.length listed a w hcl (Region.free_spec ho hq.2) hrd' (.inr ⟨hw, rfl⟩) trivial
            (draw_sound hH hsel hlo hpan π hrest (hcl.set hrd') hdst ⟨L, m, R2⟩ h1 hQ)
        · have hone : Region.ready .any ops listed = [i] := by
            rcases hcase with hc | hc
            · exact absurd hc hq
            · exact hc
          refine ⟨fun h0 => (by rw [hone] at h0; cases h0), fun j hj => ?_⟩
          rw [hone] at hj
          obtain rfl : j = i := by simpa using hj
          unfold wpOp
          simp only [ho, hw, Bool.false_eq_true, if_false]
          exact ⟨stepT_refl ops j w, draw_sound hH hsel hlo hpan π hrest (hcl.set hrd') hdst ⟨L, m, R2⟩ h1 hQ⟩
/-! ### code -/
def exOf : Ex → Exit
  | .normal => .normal
  | .exit i => .exit i
  | .ret => .ret
theorem awp_sound {O : Nat → List Nat} (hm : P.follows .mixedOrders = true) : ∀ (c : Code) {s : St} {a : Act} {w : World} {Qa : Ex → St → Prop} {Q : Exit → Act → World → Prop}, wfCode O n c = true → Rel W0 S F n s a w → awp P H O c s Qa → (∀ e s a w, Rel W0 S F n s a w → Qa e s → Q (exOf e) a w) → c.wp P Q a w
  | .skip, s, a, w, Qa, Q, hw, hR, h, hQ => wp_skip (hQ .normal s a w hR h)
  | .exit i, s, a, w, Qa, Q, hw, hR, h, hQ => wp_exit (hQ (.exit i) s a w hR h)
  | .ret, s, a, w, Qa, Q, hw, hR, h, hQ => wp_ret (hQ .ret s a w hR h)
  | .seq x y, s, a, w, Qa, Q, hw, hR, h, hQ => by
    simp only [wfCode, Bool.and_eq_true] at hw
    refine wp_seq (awp_sound hm x hw.1 hR h fun e s a w hR he => ?_)
    cases e with
    | normal => exact awp_sound hm y hw.2 hR he hQ
    | exit i => exact hQ (.exit i) s a w hR he
    | ret => exact hQ .ret s a w hR he
  | .cond c x y, s, a, w, Qa, Q, hw, hR, h, hQ => by
    simp only [wfCode, Bool.and_eq_true] at hw
    obtain ⟨L, m, R⟩ := hR
    obtain ⟨t, ht, h1⟩ := onBool.elim (show onBool _ _ from h)
    have hc := R.ev c
    rw [ht] at hc
    exact wp_cond_split hc.1 (fun ht => awp_sound hm x hw.1 ⟨L, m, R⟩ (h1.1 ht) hQ) (fun ht => awp_sound hm y hw.2 ⟨L, m, R⟩ (h1.2 ht) hQ)
  | .block i c, s, a, w, Qa, Q, hw, hR, h, hQ => by
    refine wp_block (awp_sound hm c hw hR h fun e s a w hR he => ?_)
    cases e with
    | normal => exact hQ .normal s a w hR he
    | ret => exact hQ .ret s a w hR he
    | exit j =>
      show if j = i then Q .normal a w else Q (.exit j) a w
      have he : sel (j == i) (Qa .normal s) (Qa (.exit j) s) := he
      by_cases e : j = i
      · subst e
        rw [if_pos rfl]
        rw [show (j == j) = true by simp] at he
        exact hQ .normal s a w hR he
      · rw [if_neg e]
        rw [show (j == i) = false by simpa using e] at he
        exact hQ (.exit j) s a w hR he
  | .loop c, s, a, w, Qa, Q, hw, hR, h, hQ => by
    obtain ⟨I, k, ⟨s0, hw0, hI⟩, hround⟩ := h
    refine wp_loop_ghost (fun k a w => ∃ s, Rel W0 S F n s a w ∧ I k s) k ⟨s0, hw0.rel hR, hI⟩ fun k a w ⟨s, hR, hI⟩ => ?_
    refine awp_sound hm c (by simpa [wfCode] using hw) hR (hround k s hI) fun e s a w hR he => ?_
    cases e with
    | normal => obtain ⟨k', h1, s2, hw2, h2⟩ := he; exact ⟨k', h1, s2, hw2.rel hR, h2⟩
    | exit i => exact hQ (.exit i) s a w hR he
    | ret => exact hQ .ret s a w hR he
  | .region i ops draw, s, a, w, Qa, Q, hw, hR, h, hQ => by
    have h : opsE P (hOf draw (O i) H) (stripL ops (ordOf ops draw (O i))) s (Qa .normal) := h
    simp only [wfCode, Bool.and_eq_true, Bool.or_eq_true, Bool.not_eq_true'] at hw
    obtain ⟨hd, hdraw⟩ := hw
    have hd' : ∀ o ∈ ops.toList, dOk n o.dst := fun o ho => by
      have := (Array.all_eq_true'.1 hd) o (by simpa using ho)
      unfold dOk
      split at this <;> simp_all
    cases draw with
    | false => exact wp_region_list (ops_sound ops.toList hd' hR h fun s a w => hQ .normal s a w)
    | true =>
      have hdraw := hdraw.resolve_left (by simp)
      obtain ⟨L, m, R⟩ := hR
      cases hO : O i with
      | nil =>
        rw [hO] at h hdraw
        have h : opsE P H (stripL ops ops.toList) s (Qa .normal) := h
        simp only [wfDraw, Bool.or_eq_true, Bool.and_eq_true] at hdraw
        rcases hdraw with hdraw | hdraw
        · refine wp_region_still hm hdraw.1 (still_sound ops.toList (fun o ho => ⟨hd' o ho, (Array.all_eq_true'.1 hdraw.2) o (by simpa using ho)⟩) ⟨L, m, R.drew⟩ h fun s a hR hK => hQ .normal s a _ hR hK)
        · have e : ops = ops.toList.toArray := by simp
          have key : (Code.region i ops.toList.toArray true).wp P Q a w := by
            refine wp_region_still_tail (quietN ops quietOp) hm (by rw [← e]; exact hdraw) ?_
            rw [← e]
            have h2 : opsE P H (stripL ops (ops.toList.take (quietN ops quietOp) ++ ops.toList.drop (quietN ops quietOp))) s (Qa .normal) := by rw [List.take_append_drop]; exact h
            have h3 := (congrFun (opsE_append (P := P) (H := H) (ops := ops) (ops.toList.take (quietN ops quietOp)) (ops.toList.drop (quietN ops quietOp)) (Qa .normal)) s).mp h2
            exact still_sound _ (fun o ho => ⟨hd' o (List.mem_of_mem_take ho), take_quiet ops.toList o ho⟩) ⟨L, m, R.drew⟩ h3 fun s a hR hK => ops_sound _ (fun o ho => hd' o (List.mem_of_mem_drop ho)) hR hK fun s a w => hQ .normal s a w
          rwa [← e] at key
      | cons j π =>
        rw [hO] at h hdraw
        have h : opsE P (hBl H) (stripL ops (opsAt ops (j :: π))) s (Qa .normal) := h
        simp only [wfDraw, Bool.and_eq_true, beq_iff_eq] at hdraw
        obtain ⟨⟨⟨h1, h2⟩, h3⟩, h4⟩ := hdraw
        have key : (Code.region i ops true).wp P (fun e a w => match e with | .panic _ => False | e => Q e a w) a w := by
          refine wp_region_any hm (wpAny_of_L (T := stepT ops) _ _ _ _ ?_)
          have := draw_sound (P := P) (H := hBl H) (Q := fun e a w => match e with | .panic _ => False | e => Q e a w) rfl h1 h2 (fun _ _ _ h => h) (j :: π) (listed := Array.replicate ops.size false) h4 (fun j oj _ hl => by
            rw [getD_replicate_false] at hl; cases hl) hd' ⟨L, m, R.drew⟩ h (fun s a w hR hK => hQ .normal s a w hR hK)
          rwa [h3] at this
        refine wp_mono key fun e a w he => ?_
        cases e with
        | panic c => exact False.elim he
        | _ => exact he
  | .goto _, _, _, _, _, _, _, _, h, _ => False.elim h
  | .label _, _, _, _, _, _, _, _, h, _ => False.elim h
  | .scope .., _, _, _, _, _, _, _, h, _ => False.elim h
  | .refuse _, _, _, _, _, _, _, _, h, _ => False.elim h
end
end Go.Ev
