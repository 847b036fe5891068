/- Part 9 of what the row leans on: the evaluator, words, contracts of functions; pruned by a program of ours. -/
import Derived.Test.YtcmkgoflnfchcaaWn08
import Derived.OrdersHeld
import Derived.Scope
set_option linter.unusedVariables false
set_option linter.constructorNameAsVariable false
set_option linter.unusedSimpArgs false
namespace Go.Ev
open Go Go.RowKit
section
variable {P : Program} {ops : Array Oper} {Q : Exit → Act → World → Prop} {md : Region.Mode} {T : Nat → World → World → Prop}
def wpAnyL (P : Program) (md : Region.Mode) (ops : Array Oper) (Q : Exit → Act → World → Prop) (T : Nat → World → World → Prop) : Nat → Array Bool → Act → World → Prop
  | 0, listed, a, w => Region.ready md ops listed = [] ∧ Q .normal a w
  | fuel + 1, listed, a, w => (Region.ready md ops listed = [] → Q .normal a w) ∧
    ∀ i ∈ Region.ready md ops listed, wpOp P ops Q i (fun a' w' => T i w w' ∧ wpAnyL P md ops Q T fuel (listed.setIfInBounds i true) a' w') a w
theorem wpAny_of_L : ∀ (fuel : Nat) (listed : Array Bool) (a : Act) (w : World), wpAnyL P md ops Q T fuel listed a w → wpAny P md ops Q fuel listed a w
  | 0, _, _, _, h => h
  | fuel + 1, _, _, _, h => ⟨h.1, fun i hi => wpOp_mono (fun a' w' h' => wpAny_of_L fuel _ a' w' h'.2) (h.2 i hi)⟩
def Closed (md : Region.Mode) (ops : Array Oper) (listed : Array Bool) : Prop :=
  ∀ j oj, ops[j]? = some oj → listed.getD j false = true → ∀ e ∈ oj.after, Region.binds md e = true → listed.getD e.on false = true
theorem Closed.set {listed : Array Bool} (h : Closed md ops listed) {i : Nat} (hi : i ∈ Region.ready md ops listed) : Closed md ops (listed.setIfInBounds i true) := by
  obtain ⟨_, oi, hoi, hall⟩ := mem_ready.1 hi
  intro j oj hj hl e he hb
  by_cases hij : i = j
  · subst hij
    obtain rfl := Option.some.inj (hj.symm.trans hoi)
    exact getD_set_true (hall e he hb)
  · refine getD_set_true (h j oj hj ?_ e he hb)
    rwa [getD_set_ne false hij] at hl
theorem wpAnyL_first {i : Nat} {oi : Oper} {v : Value} {S0 : World → Prop} (hi : ops[i]? = some oi) (hsel : ∀ (j : Nat) (o : Oper) cs b, ops[j]? = some o → o.op ≠ .select cs b)
    (hQ : ∀ c a w, Q (.panic c) (a.put oi.dst v) w → Q (.panic c) a w)
    (hT : ∀ w, T i w w) (hstep : ∀ j l w w', Closed md ops l → l.getD j false = true → l.getD i true = false → T j w w' → S0 w → S0 w') :
    ∀ (fuel : Nat) (listed : Array Bool) (a : Act) (w : World), Closed md ops listed →
      (∀ j oj, ops[j]? = some oj → j ≠ i → listed.getD j true = false → (∀ e ∈ oj.after, Region.binds md e = true → e.on ≠ i) → oi.apart ops oj = true) →
      i ∈ Region.ready md ops listed → YieldsIf P ops S0 oi v a → S0 w →
      wpAnyL P md ops Q T fuel (listed.setIfInBounds i true) (a.put oi.dst v) w → wpAnyL P md ops Q T (fuel + 1) listed a w := by
  intro fuel
  induction fuel with
  | zero =>
    intro listed a w hcl _ hr hy hS H
    refine ⟨fun h => (by rw [h] at hr; cases hr), fun j hj => ?_⟩
    by_cases hji : j = i
    · subst hji
      exact hy.wpOp hi hS ⟨hT w, H⟩
    · have := ready_mono hj hji
      rw [H.1] at this
      cases this
  | succ fuel ih =>
    intro listed a w hcl hfree hr hy hS H
    refine ⟨fun h => (by rw [h] at hr; cases hr), fun j hj => ?_⟩
    by_cases hji : j = i
    · subst hji
      exact hy.wpOp hi hS ⟨hT w, H⟩
    · have h1 := H.2 j (ready_mono hj hji)
      obtain ⟨hjun, oj, hoj, hall⟩ := mem_ready.1 hj
      have hnot : ∀ e ∈ oj.after, Region.binds md e = true → e.on ≠ i := fun e he hb heq => by
        have h2 := hall e he hb
        have h0 := (mem_ready.1 hr).1
        rw [heq] at h2
        rcases Nat.lt_or_ge i listed.size with h' | h'
        · simp [h'] at h0 h2; rw [h0] at h2; cases h2
        · simp [Array.getElem?_eq_none h'] at h2
      have h2 := wpOp_putIf hoj (hfree j oj hoj hji hjun hnot) (fun cs b => hsel i oi cs b hi) (fun cs b => hsel j oj cs b hoj) hQ hy h1
      have hfree' : ∀ k ok, ops[k]? = some ok → k ≠ i → (listed.setIfInBounds j true).getD k true = false →
          (∀ e ∈ ok.after, Region.binds md e = true → e.on ≠ i) → oi.apart ops ok = true := fun k ok hk hki hun hno => by
        refine hfree k ok hk hki ?_ hno
        by_cases hjk : j = k
        · subst hjk; exact hjun
        · rwa [getD_set_ne true hjk] at hun
      refine wpOp_mono (fun a' w' h3 => ?_) h2
      obtain ⟨hy', hT', hK⟩ := h3
      rw [Array.setIfInBounds_comm _ _ (Ne.symm hji)] at hK
      have hlj : (listed.setIfInBounds j true).getD j false = true := by
        rcases Nat.lt_or_ge j listed.size with h' | h'
        · simp [h']
        · simp [Array.getElem?_eq_none h'] at hjun
      have hli : (listed.setIfInBounds j true).getD i true = false := by
        rw [getD_set_ne true hji]; exact (mem_ready.1 hr).1
      exact ⟨hT', ih (listed.setIfInBounds j true) a' w' (hcl.set hj) hfree' (ready_mono hr (Ne.symm hji)) hy' (hstep j _ w w' (hcl.set hj) hlj hli hT' hS) hK⟩
theorem Closed.waits {listed : Array Bool} (h : Closed md ops listed) {e i : Nat} (he : listed.getD e false = true) (hw : Region.waitsFor md ops e i = true) : listed.getD i false = true := by
  obtain ⟨oj, hj, x, hx, hb, rfl⟩ := Region.waitsFor_spec hw
  exact h e oj hj he x hx hb
theorem Closed.anc {listed : Array Bool} (h : Closed md ops listed) : ∀ {f e i : Nat}, ancB md ops f e i = true → listed.getD e false = true → listed.getD i false = true
  | 0, _, _, ha, _ => by cases ha
  | f + 1, e, i, ha, he => by
    simp only [ancB, Bool.or_eq_true, List.any_eq_true, Bool.and_eq_true] at ha
    rcases ha with ha | ⟨j, _, h1, h2⟩
    · exact h.waits he ha
    · exact Closed.anc h h2 (h.waits he h1)
end
def stepT (ops : Array Oper) (j : Nat) (w w' : World) : Prop :=
  match ops[j]? with
  | some oj => growOp oj.op = true → Grows w w'
  | none => Grows w w'
theorem Grows.trans {a b c : World} (h : Grows a b) (k : Grows b c) : Grows a c := ⟨Nat.le_trans h.size k.size, fun x hx => (k.block x (Nat.lt_of_lt_of_le hx h.size)).trans (h.block x hx)⟩
theorem stepT_refl (ops : Array Oper) (j : Nat) (w : World) : stepT ops j w w := by
  unfold stepT
  split
  · exact fun _ => Grows.refl w
  · exact Grows.refl w
section
variable {P : Program} {H : Nat → Nat} {W0 : Bs} {S F : Nat → Prop} {n : Nat} {K : St → Prop} {ops : Array Oper}
theorem quiet_step (hlo : loadsOk ops = true) {i : Nat} {o : Oper} (ho : ops[i]? = some o) (hq : quietOp o.op = true) {w : World} {j : Nat} {l : Array Bool} {w1 w2 : World} (hc : Closed .any ops l) (hj : l.getD j false = true) (hi' : l.getD i true = false) (hT : stepT ops j w1 w2) (hS : Gr (memFree o.op) w w1) : Gr (memFree o.op) w w2 := by
  rcases hS with hS | hS
  · exact .inl hS
  · by_cases hmf : memFree o.op = true
    · exact .inl hmf
    · right
      refine hS.trans ?_
      unfold stepT at hT
      cases hoj : ops[j]? with
      | none => rw [hoj] at hT; exact hT
      | some oj =>
        rw [hoj] at hT
        by_cases hg : growOp oj.op = true
        · exact hT hg
        · have hi1 : i < ops.size := (Array.getElem?_eq_some_iff.1 ho).1
          have hj1 : j < ops.size := (Array.getElem?_eq_some_iff.1 hoj).1
          have hl := List.all_eq_true.1 (List.all_eq_true.1 hlo i (List.mem_range.2 hi1)) j (List.mem_range.2 hj1)
          simp only [ho, hoj, hq] at hl
          simp [hmf, hg] at hl
          have := hc.anc hl hj
          rw [← Bool.not_eq_true] at hi'
          exfalso
          rcases Nat.lt_or_ge i l.size with h' | h'
          · simp [h'] at this hi'; rw [this] at hi'; cases hi'
          · simp [Array.getElem?_eq_none h'] at this
theorem draw_sound {Q : Exit → Act → World → Prop} (hH : H 1000000 = 1) (hsel : Region.noSelect ops = true) (hlo : loadsOk ops = true) (hpan : ∀ c a w, ¬ Q (.panic c) a w) : ∀ (π : List Nat) {listed : Array Bool} {s : St} {a : Act} {w : World}, drawOk ops π listed = true → Closed .any ops listed →
    (∀ o ∈ ops.toList, dOk n o.dst) → Rel W0 S F n s a w → opsE P H (stripL ops (opsAt ops π)) s K → (∀ s a w, Rel W0 S F n s a w → K s → Q .normal a w) → wpAnyL P .any ops Q (stepT ops) π.length listed a w
  | [], listed, s, a, w, hd, hcl, hdst, hR, h, hQ => ⟨by simpa [drawOk] using hd, hQ s a w hR h⟩
  | i :: π, listed, s, a, w, hd, hcl, hdst, ⟨L, m, R⟩, h, hQ => by
    simp only [drawOk, Bool.and_eq_true] at hd
    obtain ⟨⟨hrd, hcase⟩, hrest⟩ := hd
    have hrd' : i ∈ Region.ready .any ops listed := by simpa using hrd
    cases ho : ops[i]? with
    | none => rw [ho] at hcase; cases hcase
    | some o =>
      rw [ho] at hcase
      simp only [Bool.or_eq_true, Bool.and_eq_true, beq_iff_eq] at hcase
      have hmem : o ∈ ops.toList := by
        have := Array.mem_of_getElem? ho
        simpa using this
      have e : opsAt ops (i :: π) = o :: opsAt ops π := by simp [opsAt, ho]
      rw [e] at h
      rcases guard_cases R h with ⟨hw, s', R', h1⟩ | ⟨hw, s', R', h1⟩
      · by_cases hq : quietOp o.op = true ∧ Region.free .any ops listed i = true
        · obtain ⟨v, s2, hrun, R2, h2⟩ := quiet_sound hq.1 (hdst o hmem) R' h1
          refine wpAnyL_first (S0 := fun w' => Gr (memFree o.op) w w') ho (Region.noSelect_spec hsel) (fun c a w hp => absurd hp (hpan _ _ _)) (stepT_refl ops i) (fun j l w1 w2 hc hj hi' hT hS => ?_) π.length listed a w hcl (Region.free_spec ho hq.2) hrd' (.inl ⟨hw, hrun⟩) (.inr (Grows.refl w))
            (draw_sound hH hsel hlo hpan π hrest (hcl.set hrd') hdst R2 h2 hQ)
          rcases hS with hS | hS
          · exact .inl hS
          · by_cases hmf : memFree o.op = true
            · exact .inl hmf
            · right
              refine hS.trans ?_
              unfold stepT at hT
              cases hoj : ops[j]? with
              | none => rw [hoj] at hT; exact hT
              | some oj =>
                rw [hoj] at hT
                by_cases hg : growOp oj.op = true
                · exact hT hg
                · have hi1 : i < ops.size := (Array.getElem?_eq_some_iff.1 ho).1
                  have hj1 : j < ops.size := (Array.getElem?_eq_some_iff.1 hoj).1
                  have hl := List.all_eq_true.1 (List.all_eq_true.1 hlo i (List.mem_range.2 hi1)) j (List.mem_range.2 hj1)
                  simp only [ho, hoj, hq.1] at hl
                  simp [hmf, hg] at hl
                  have := hc.anc hl hj
                  rw [← Bool.not_eq_true] at hi'
                  exfalso
                  rcases Nat.lt_or_ge i l.size with h' | h'
                  · simp [h'] at this hi'; rw [this] at hi'; cases hi'
                  · simp [Array.getElem?_eq_none h'] at this
        · have hone : Region.ready .any ops listed = [i] := by
            rcases hcase with hc | hc
            · exact absurd hc hq
            · exact hc
          refine ⟨fun h0 => (by rw [hone] at h0; cases h0), fun j hj => ?_⟩
          rw [hone] at hj
          obtain rfl : j = i := by simpa using hj
          unfold wpOp
          simp only [ho, hw, if_true]
          left
          refine Oper.wp_mono (fun a' w' hh => ?_) (op_sound (hdst o hmem) R' h1 Q)
          obtain ⟨⟨s2, R2, h2⟩, hG⟩ := hh
          exact ⟨by unfold stepT; rw [ho]; exact hG hH, draw_sound hH hsel hlo hpan π hrest (hcl.set hrd') hdst R2 h2 hQ⟩
      · have R2 := R'.put (hdst o hmem) (x := .tup []) (v := undef) ⟨#[], rfl, rfl⟩
        by_cases hq : quietOp o.op = true ∧ Region.free .any ops listed i = true
        · exact wpAnyL_first (S0 := fun _ => True) ho (Region.noSelect_spec hsel) (fun c a w hp => absurd hp (hpan _ _ _)) (stepT_refl ops i) (fun _ _ _ _ _ _ _ _ _ => trivial) π.length listed a w hcl (Region.free_spec ho hq.2) hrd' (.inr ⟨hw, rfl⟩) trivial
            (draw_sound hH hsel hlo hpan π hrest (hcl.set hrd') hdst ⟨L, m, R2⟩ h1 hQ)
        · have hone : Region.ready .any ops listed = [i] := by
            rcases hcase with hc | hc
            · exact absurd hc hq
            · exact hc
          refine ⟨fun h0 => (by rw [hone] at h0; cases h0), fun j hj => ?_⟩
          rw [hone] at hj
          obtain rfl : j = i := by simpa using hj
          unfold wpOp
          simp only [ho, hw, Bool.false_eq_true, if_false]
          exact ⟨stepT_refl ops j w, draw_sound hH hsel hlo hpan π hrest (hcl.set hrd') hdst ⟨L, m, R2⟩ h1 hQ⟩
def stepTM (ops : Array Oper) (M : List Nat) (j : Nat) (w w' : World) : Prop :=
  match ops[j]? with
  | some oj => growOp oj.op = true → M.contains (j + 2000) = false → Grows w w'
  | none => Grows w w'
theorem stepTM_refl (ops : Array Oper) (M : List Nat) (j : Nat) (w : World) : stepTM ops M j w w := by
  unfold stepTM
  split
  · exact fun _ _ => Grows.refl w
  · exact Grows.refl w
theorem drawM_sound {Q : Exit → Act → World → Prop} {M : List Nat} (hsel : Region.noSelect ops = true) (hlo : loadsOkM ops M = true) (hpan : ∀ c a w, ¬ Q (.panic c) a w) : ∀ (π : List Nat) {listed : Array Bool} {s : St} {a : Act} {w : World}, (∀ i ∈ π, i ∈ M) → drawOk ops (π.map unM) listed = true → Closed .any ops listed →
    (∀ o ∈ ops.toList, dOk n o.dst) → Rel W0 S F n s a w → opsM P H ops π s K → (∀ s a w, Rel W0 S F n s a w → K s → Q .normal a w) → wpAnyL P .any ops Q (stepTM ops M) π.length listed a w
  | [], listed, s, a, w, _, hd, hcl, hdst, hR, h, hQ => ⟨by simpa [drawOk] using hd, hQ s a w hR h⟩
  | i0 :: π, listed, s, a, w, hM, hd, hcl, hdst, ⟨L, m, R⟩, h, hQ => by
    have hM' : ∀ i ∈ π, i ∈ M := fun i hi => hM i (List.mem_cons_of_mem _ hi)
    obtain ⟨i, hi0, H', o, ho, h, hH'⟩ : ∃ i, unM i0 = i ∧ ∃ H' o, ops[i]? = some o ∧ opsE P H' (stripL ops [o]) s (fun s' => opsM P H ops π s' K) ∧ (M.contains (i + 2000) = false → H' 1000000 = 1) := by
      unfold opsM at h
      unfold unM
      cases hy : isY i0 with
      | true =>
        rw [hy] at h
        refine ⟨i0, by simp, hBl H, ?_⟩
        have h : onOp (ops[i0]?) _ := h
        cases ho : ops[i0]? with
        | none => rw [ho] at h; exact h.elim
        | some o => rw [ho] at h; exact ⟨o, rfl, h, fun _ => rfl⟩
      | false =>
        rw [hy] at h
        refine ⟨i0 - 2000, by simp, H, ?_⟩
        have h : onOp (ops[i0 - 2000]?) _ := h
        cases ho : ops[i0 - 2000]? with
        | none => rw [ho] at h; exact h.elim
        | some o =>
          rw [ho] at h
          refine ⟨o, rfl, h, fun hc => ?_⟩
          have h1 : i0 - 2000 + 2000 = i0 := by
            rw [isY_eq] at hy
            have : i0 - 1999 ≠ 0 := by simpa using hy
            omega
          rw [h1] at hc
          have h2 : i0 ∈ M := hM i0 (List.mem_cons_self ..)
          have h3 : M.contains i0 = true := List.contains_iff_mem.2 h2
          rw [h3] at hc; cases hc
    rw [List.map_cons, hi0] at hd
    simp only [drawOk, Bool.and_eq_true] at hd
    obtain ⟨⟨hrd, hcase⟩, hrest⟩ := hd
    have hrd' : i ∈ Region.ready .any ops listed := by simpa using hrd
    rw [ho] at hcase
    simp only [Bool.or_eq_true, Bool.and_eq_true, beq_iff_eq] at hcase
    have hmem : o ∈ ops.toList := by
      have := Array.mem_of_getElem? ho
      simpa using this
    rcases guard_cases R h with ⟨hw, s', R', h1⟩ | ⟨hw, s', R', h1⟩
    · have h1 : opE P H' o.dst o.op s' (fun s' => opsM P H ops π s' K) := h1
      by_cases hq : quietOp o.op = true ∧ Region.free .any ops listed i = true
      · obtain ⟨v, s2, hrun, R2, h2⟩ := quiet_sound hq.1 (hdst o hmem) R' h1
        refine wpAnyL_first (S0 := fun w' => Gr (memFree o.op) w w') ho (Region.noSelect_spec hsel) (fun c a w hp => absurd hp (hpan _ _ _)) (stepTM_refl ops M i) (fun j l w1 w2 hc hj hi' hT hS => ?_) π.length listed a w hcl (Region.free_spec ho hq.2) hrd' (.inl ⟨hw, hrun⟩) (.inr (Grows.refl w))
          (drawM_sound hsel hlo hpan π hM' hrest (hcl.set hrd') hdst R2 h2 hQ)
        rcases hS with hS | hS
        · exact .inl hS
        · by_cases hmf : memFree o.op = true
          · exact .inl hmf
          · right
            refine hS.trans ?_
            unfold stepTM at hT
            cases hoj : ops[j]? with
            | none => rw [hoj] at hT; exact hT
            | some oj =>
              rw [hoj] at hT
              by_cases hg : growOp oj.op = true ∧ M.contains (j + 2000) = false
              · exact hT hg.1 hg.2
              · have hi1 : i < ops.size := (Array.getElem?_eq_some_iff.1 ho).1
                have hj1 : j < ops.size := (Array.getElem?_eq_some_iff.1 hoj).1
                have hl := List.all_eq_true.1 (List.all_eq_true.1 hlo i (List.mem_range.2 hi1)) j (List.mem_range.2 hj1)
                have hg' : (growOp oj.op && !M.contains (j + 2000)) = false := by
                  cases e1 : growOp oj.op <;> cases e2 : M.contains (j + 2000) <;> simp_all
                simp only [ho, hoj, hq.1, hg'] at hl
                simp [hmf] at hl
                have := hc.anc hl hj
                rw [← Bool.not_eq_true] at hi'
                exfalso
                rcases Nat.lt_or_ge i l.size with h' | h'
                · simp [h'] at this hi'; rw [this] at hi'; cases hi'
                · simp [Array.getElem?_eq_none h'] at this
      · have hone : Region.ready .any ops listed = [i] := by
          rcases hcase with hc | hc
          · exact absurd hc hq
          · exact hc
        refine ⟨fun h0 => (by rw [hone] at h0; cases h0), fun j hj => ?_⟩
        rw [hone] at hj
        obtain rfl : j = i := by simpa using hj
        unfold wpOp
        simp only [ho, hw, if_true]
        left
        refine Oper.wp_mono (fun a' w' hh => ?_) (op_sound (hdst o hmem) R' h1 Q)
        obtain ⟨⟨s2, R2, h2⟩, hG⟩ := hh
        exact ⟨by unfold stepTM; rw [ho]; exact fun h3 h4 => hG (hH' h4) h3, drawM_sound hsel hlo hpan π hM' hrest (hcl.set hrd') hdst R2 h2 hQ⟩
    · have R2 := R'.put (hdst o hmem) (x := .tup []) (v := undef) ⟨#[], rfl, rfl⟩
      have h1 : opsM P H ops π (s'.put o.dst (.tup [])) K := h1
      by_cases hq : quietOp o.op = true ∧ Region.free .any ops listed i = true
      · exact wpAnyL_first (S0 := fun _ => True) ho (Region.noSelect_spec hsel) (fun c a w hp => absurd hp (hpan _ _ _)) (stepTM_refl ops M i) (fun _ _ _ _ _ _ _ _ _ => trivial) π.length listed a w hcl (Region.free_spec ho hq.2) hrd' (.inr ⟨hw, rfl⟩) trivial
          (drawM_sound hsel hlo hpan π hM' hrest (hcl.set hrd') hdst ⟨L, m, R2⟩ h1 hQ)
      · have hone : Region.ready .any ops listed = [i] := by
          rcases hcase with hc | hc
          · exact absurd hc hq
          · exact hc
        refine ⟨fun h0 => (by rw [hone] at h0; cases h0), fun j hj => ?_⟩
        rw [hone] at hj
        obtain rfl : j = i := by simpa using hj
        unfold wpOp
        simp only [ho, hw, Bool.false_eq_true, if_false]
        exact ⟨stepTM_refl ops M j w, drawM_sound hsel hlo hpan π hM' hrest (hcl.set hrd') hdst ⟨L, m, R2⟩ h1 hQ⟩
theorem quiet_step1 {i : Nat} (hlo : loadOk1 ops i = true) {o : Oper} (ho : ops[i]? = some o) (hq : quietOp o.op = true) {w : World} {j : Nat} {l : Array Bool} {w1 w2 : World} (hc : Closed .any ops l) (hj : l.getD j false = true) (hi' : l.getD i true = false) (hT : stepT ops j w1 w2) (hS : Gr (memFree o.op) w w1) : Gr (memFree o.op) w w2 := by
  rcases hS with hS | hS
  · exact .inl hS
  · by_cases hmf : memFree o.op = true
    · exact .inl hmf
    · right
      refine hS.trans ?_
      unfold stepT at hT
      cases hoj : ops[j]? with
      | none => rw [hoj] at hT; exact hT
      | some oj =>
        rw [hoj] at hT
        by_cases hg : growOp oj.op = true
        · exact hT hg
        · have hj1 : j < ops.size := (Array.getElem?_eq_some_iff.1 hoj).1
          have hl := List.all_eq_true.1 hlo j (List.mem_range.2 hj1)
          simp only [ho, hoj, hq] at hl
          simp [hmf, hg] at hl
          have := hc.anc hl hj
          rw [← Bool.not_eq_true] at hi'
          exfalso
          rcases Nat.lt_or_ge i l.size with h' | h'
          · simp [h'] at this hi'; rw [this] at hi'; cases hi'
          · simp [Array.getElem?_eq_none h'] at this
theorem one_step {Q : Exit → Act → World → Prop} (hH : H 1000000 = 1) {i : Nat} {o : Oper} (ho : ops[i]? = some o) (hd : dOk n o.dst) {m0 : Nat} {listed : Array Bool} {s : St} {a : Act} {w : World} (hR : Rel W0 S F n s a w) {K1 : St → Prop} (h : opsE P H (stripL ops [o]) s K1)
    (hk : ∀ s a w, Rel W0 S F n s a w → K1 s → wpAnyL P .any ops Q (stepT ops) m0 (listed.setIfInBounds i true) a w) :
    wpOp P ops Q i (fun a' w' => stepT ops i w w' ∧ wpAnyL P .any ops Q (stepT ops) m0 (listed.setIfInBounds i true) a' w') a w := by
  obtain ⟨L, m, R⟩ := hR
  rcases guard_cases R h with ⟨hw, s', R', h1⟩ | ⟨hw, s', R', h1⟩
  · unfold wpOp
    simp only [ho, hw, if_true]
    left
    refine Oper.wp_mono (fun a' w' hh => ?_) (op_sound hd R' h1 Q)
    obtain ⟨⟨s2, R2, h2⟩, hG⟩ := hh
    exact ⟨by unfold stepT; rw [ho]; exact hG hH, hk _ _ _ R2 h2⟩
  · have R2 := R'.put hd (x := .tup []) (v := undef) ⟨#[], rfl, rfl⟩
    unfold wpOp
    simp only [ho, hw, Bool.false_eq_true, if_false]
    exact ⟨stepT_refl ops i w, hk _ _ _ ⟨L, m, R2⟩ h1⟩
theorem draw_soundG {Q : Exit → Act → World → Prop} (hH : H 1000000 = 1) (hsel : Region.noSelect ops = true) (hpan : ∀ c a w, ¬ Q (.panic c) a w) {m0 : Nat} {K : St → Prop} : ∀ (π : List Nat) {listed : Array Bool} {s : St} {a : Act} {w : World}, drawOkP ops π listed = true → Closed .any ops listed →
    (∀ o ∈ ops.toList, dOk n o.dst) → Rel W0 S F n s a w → opsE P H (stripL ops (opsAt ops π)) s K → (∀ s a w, Closed .any ops (listAll listed π) → Rel W0 S F n s a w → K s → wpAnyL P .any ops Q (stepT ops) m0 (listAll listed π) a w) → wpAnyL P .any ops Q (stepT ops) (π.length + m0) listed a w
  | [], listed, s, a, w, hd, hcl, hdst, hR, h, hQ => by
    rw [List.length_nil, Nat.zero_add]; exact hQ s a w hcl hR h
  | i :: π, listed, s, a, w, hd, hcl, hdst, ⟨L, m, R⟩, h, hQ => by
    simp only [drawOkP, Bool.and_eq_true] at hd
    obtain ⟨⟨⟨hrd, hcase⟩, hlo⟩, hrest⟩ := hd
    have hrd' : i ∈ Region.ready .any ops listed := by simpa using hrd
    rw [List.length_cons, Nat.add_right_comm]
    cases ho : ops[i]? with
    | none => rw [ho] at hcase; cases hcase
    | some o =>
      rw [ho] at hcase
      simp only [Bool.or_eq_true, Bool.and_eq_true, beq_iff_eq] at hcase
      have hmem : o ∈ ops.toList := by
        have := Array.mem_of_getElem? ho
        simpa using this
      have e : opsAt ops (i :: π) = o :: opsAt ops π := by simp [opsAt, ho]
      rw [e] at h
      by_cases hq : quietOp o.op = true ∧ Region.free .any ops listed i = true
      · rcases guard_cases R h with ⟨hw, s', R', h1⟩ | ⟨hw, s', R', h1⟩
        · obtain ⟨v, s2, hrun, R2, h2⟩ := quiet_sound hq.1 (hdst o hmem) R' h1
          exact wpAnyL_first (S0 := fun w' => Gr (memFree o.op) w w') ho (Region.noSelect_spec hsel) (fun c a w hp => absurd hp (hpan _ _ _)) (stepT_refl ops i) (fun j l w1 w2 hc hj hi' hT hS => quiet_step1 hlo ho hq.1 hc hj hi' hT hS) (π.length + m0) listed a w hcl (Region.free_spec ho hq.2) hrd' (.inl ⟨hw, hrun⟩) (.inr (Grows.refl w))
            (draw_soundG hH hsel hpan π hrest (hcl.set hrd') hdst R2 h2 hQ)
        · have R2 := R'.put (hdst o hmem) (x := .tup []) (v := undef) ⟨#[], rfl, rfl⟩
          exact wpAnyL_first (S0 := fun _ => True) ho (Region.noSelect_spec hsel) (fun c a w hp => absurd hp (hpan _ _ _)) (stepT_refl ops i) (fun _ _ _ _ _ _ _ _ _ => trivial) (π.length + m0) listed a w hcl (Region.free_spec ho hq.2) hrd' (.inr ⟨hw, rfl⟩) trivial
            (draw_soundG hH hsel hpan π hrest (hcl.set hrd') hdst ⟨L, m, R2⟩ h1 hQ)
      · have hone : Region.ready .any ops listed = [i] := by
          rcases hcase with hc | hc
          · exact absurd hc hq
          · exact hc
        refine ⟨fun h0 => (by rw [hone] at h0; cases h0), fun j hj => ?_⟩
        rw [hone] at hj
        obtain rfl : j = i := by simpa using hj
        have h' : opsE P H (stripL ops ([o] ++ opsAt ops π)) s K := h
        have h2 := (congrFun (opsE_append (P := P) (H := H) (ops := ops) [o] (opsAt ops π) K) s).mp h'
        exact one_step hH ho (hdst o hmem) ⟨L, m, R⟩ h2 fun s a w hR' hk => draw_soundG hH hsel hpan π hrest (hcl.set hrd') hdst hR' hk hQ
theorem end_sound {Q : Exit → Act → World → Prop} (hH : H 1000000 = 1) (hsel : Region.noSelect ops = true) (hpan : ∀ c a w, ¬ Q (.panic c) a w) {K : St → Prop} (π : List Nat) {listed : Array Bool} {s : St} {a : Act} {w : World} (hd : endOk ops π listed = true) (hcl : Closed .any ops listed)
    (hdst : ∀ o ∈ ops.toList, dOk n o.dst) (hR : Rel W0 S F n s a w) (h : opsE P H (stripL ops (opsAt ops π)) s K) (hQ : ∀ s a w, Rel W0 S F n s a w → K s → Q .normal a w) : wpAnyL P .any ops Q (stepT ops) π.length listed a w := by
  simp only [endOk, Bool.and_eq_true] at hd
  exact draw_soundG (m0 := 0) hH hsel hpan π hd.1 hcl hdst hR h fun s a w _ hR hk => ⟨by simpa using hd.2, hQ s a w hR hk⟩
theorem comb_sound {Q : Exit → Act → World → Prop} (hH : H 1000000 = 1) (hsel : Region.noSelect ops = true) (hpan : ∀ c a w, ¬ Q (.panic c) a w) {K : St → Prop} {x : Nat} (hdst : ∀ o ∈ ops.toList, dOk n o.dst) (hQ : ∀ s a w, Rel W0 S F n s a w → K s → Q .normal a w) : ∀ (cs π : List Nat) {listed : Array Bool} {s : St} {a : Act} {w : World}, combOk ops x cs π listed = true → Closed .any ops listed →
    Rel W0 S F n s a w → combE P H ops x cs π s K → wpAnyL P .any ops Q (stepT ops) ((cs ++ π).length + 1) listed a w
  | [], π, listed, s, a, w, hd, hcl, hR, h => by
    simp only [combOk, Bool.and_eq_true, beq_iff_eq] at hd
    have hrd : x ∈ Region.ready .any ops listed := by rw [hd.1]; simp
    refine ⟨fun h0 => (by rw [hd.1] at h0; cases h0), fun j hj => ?_⟩
    rw [hd.1] at hj
    obtain rfl : j = x := by simpa using hj
    have h : onOp (ops[j]?) _ := h
    cases ho : ops[j]? with
    | none => rw [ho] at h; exact h.elim
    | some o =>
      rw [ho] at h
      have hmem : o ∈ ops.toList := by
        have := Array.mem_of_getElem? ho
        simpa using this
      exact one_step hH ho (hdst o hmem) hR h fun s a w hR' hk => end_sound hH hsel hpan π hd.2 (hcl.set hrd) hdst hR' hk hQ
  | c :: cs, π, listed, s, a, w, hd, hcl, hR, h => by
    simp only [combOk, Bool.and_eq_true] at hd
    obtain ⟨⟨⟨hx, hall⟩, he⟩, hc⟩ := hd
    have hx : x ∈ Region.ready .any ops listed := by simpa using hx
    obtain ⟨hA, hB⟩ := h
    refine ⟨fun h0 => (by rw [h0] at hx; cases hx), fun j hj => ?_⟩
    have hjj := List.all_eq_true.1 hall j hj
    simp only [Bool.or_eq_true, beq_iff_eq] at hjj
    by_cases hjx : j = x
    · subst hjx
      cases ho : ops[j]? with
      | none => rw [ho] at hA; exact hA.elim
      | some o =>
        rw [ho] at hA
        have hmem : o ∈ ops.toList := by
          have := Array.mem_of_getElem? ho
          simpa using this
        exact one_step hH ho (hdst o hmem) hR hA fun s a w hR' hk => end_sound hH hsel hpan (c :: (cs ++ π)) he (hcl.set hj) hdst hR' hk hQ
    · obtain rfl : j = c := by rcases hjj with h | h; exact absurd h hjx; exact h
      cases ho : ops[j]? with
      | none => rw [ho] at hB; exact hB.elim
      | some o =>
        rw [ho] at hB
        have hmem : o ∈ ops.toList := by
          have := Array.mem_of_getElem? ho
          simpa using this
        exact one_step hH ho (hdst o hmem) hR hB fun s a w hR' hk => comb_sound hH hsel hpan hdst hQ cs π hc (hcl.set hj) hR' hk
def Bs.less (B : Bs) (G : List Nat) (w : World) : Bs := ⟨w, fun b => B.ok b ∧ b ∉ G, B.df⟩
theorem rebase {B : Bs} {G G' : List Nat} {w1 w : World} {L : Nat → Option Id} {m : Id → Value} {s : St} {a : Act} (R : RelC (B.less G w1) S F n L m s a w) (hold : ∀ b, S b ∨ F b → ¬ B.ok b) (hB : B.bel w1) (hG : ∀ g ∈ G, g < w1.heap.size) (hGG : ∀ g ∈ G', g ∈ G ∨ w1.heap.size ≤ g ∧ L g = none) (hG' : ∀ g ∈ G', g < w.heap.size) :
    RelC (B.less G' w) S F n L m s a w := by
  have hsz : B.w.heap.size ≤ w.heap.size := Nat.le_trans hB.size R.below.size
  refine ⟨R.size, R.defers, R.env, R.obj, fun b p hb => ?_, R.ind, fun b hb hok => ?_, Bs.bel.refl _⟩
  · have h1 := R.lab b p hb
    refine ⟨.inr ?_, h1.2⟩
    rcases h1.1 with h | ⟨h, h'⟩
    · refine ⟨.inl (Nat.le_trans hB.size h), fun hg => ?_⟩
      rcases hGG b hg with h2 | ⟨_, h2⟩
      · exact absurd (hG b h2) (Nat.not_lt_of_le h)
      · rw [h2] at hb; cases hb
    · refine ⟨h, fun hg => ?_⟩
      rcases hGG b hg with h2 | ⟨_, h2⟩
      · exact h' h2
      · rw [h2] at hb; cases hb
  · rcases hok with h | h
    · have := Bs.lt (hold b hb)
      exact absurd h (by show ¬ w.heap.size ≤ b; omega)
    · exact hold b hb h.1
theorem rebase0 {B : Bs} {w : World} {L : Nat → Option Id} {m : Id → Value} {s : St} {a : Act} (R : RelC B S F n L m s a w) : RelC (B.less [] w) S F n L m s a w := by
  refine ⟨R.size, R.defers, R.env, R.obj, fun b p hb => ⟨.inr ⟨(R.lab b p hb).1, by simp⟩, (R.lab b p hb).2⟩, R.ind, fun b hb hok => ?_, Bs.bel.refl _⟩
  rcases hok with h | h
  · have := Bs.lt (R.old b hb)
    have h2 := R.below.size
    exact absurd h (by show ¬ w.heap.size ≤ b; omega)
  · exact R.old b hb h.1
theorem less_bel {B : Bs} {G : List Nat} {w1 w : World} (hB : B.bel w1) (h : (B.less G w1).bel w) : B.bel w := hB.trans h (fun _ hb => hb.1)
theorem unbase {B : Bs} {G : List Nat} {w1 w : World} {L : Nat → Option Id} {m : Id → Value} {s : St} {a : Act} (R : RelC (B.less G w1) S F n L m s a w) (hold : ∀ b, S b ∨ F b → ¬ B.ok b) (hB : B.bel w1) : RelC B S F n L m s a w := by
  refine ⟨R.size, R.defers, R.env, R.obj, fun b p hb => ⟨?_, (R.lab b p hb).2⟩, R.ind, hold, less_bel hB R.below⟩
  rcases (R.lab b p hb).1 with h | h
  · exact .inl (Nat.le_trans hB.size h)
  · exact h.1
theorem RelC.any {L : Nat → Option Id} {m : Id → Value} {s : St} {a : Act} {w : World} (R : RelC W0 S F n L m s a w) (d : Nat) : RelC W0 S F n L m (s.put (some d) .any) a w := R.setEnv (x := .any) trivial
theorem RelC.anys {L : Nat → Option Id} {m : Id → Value} {s : St} {a : Act} {w : World} (R : RelC W0 S F n L m s a w) : ∀ ds : List Nat, RelC W0 S F n L m (s.anys ds) a w
  | [] => R
  | d :: ds => (RelC.anys R ds).any d
theorem anys_get (s : St) : ∀ (ds : List Nat) (d : Nat), d ∈ ds → (s.anys ds).env d = .any
  | d' :: ds, d, h => by
    show upd (s.anys ds).env d' .any d = .any
    unfold upd
    by_cases e : d = d'
    · subst e; simp [sel]
    · rw [show (d == d') = false by simpa using e]
      exact anys_get s ds d (by simpa [e] using h)
theorem put_any_eq {s : St} {d : Nat} (h : s.env d = .any) : s.put (some d) .any = s := by
  show St.mk (upd s.env d .any) s.σ = s
  have : upd s.env d .any = s.env := by
    funext k
    unfold upd
    by_cases e : k = d
    · subst e; simp [sel, h]
    · rw [show (k == d) = false by simpa using e]; rfl
  rw [this]
def Lays (P : Program) (o : Oper) (a : Act) (hdrOf : Nat → Value) (obj : Obj) : Prop := ∀ w1 : World, (execOp a.eval o).run P w1 = .ok (.value (hdrOf w1.heap.size)) (w1.alloc obj)
theorem Lays.put {o : Oper} {a : Act} {hdrOf : Nat → Value} {obj : Obj} (h : Lays P o a hdrOf obj) (hp : pendOp o.op = true) {d : Option Nat} {v : Value} (hd : ∀ x, d = some x → x ∉ o.looksAt ops) : Lays P o (a.put d v) hdrOf obj := fun w1 => by
  rw [execOp_put o (fun cs b e => by rw [e] at hp; cases hp) a d v hd]
  exact h w1
theorem Lays.uniq {o : Oper} {a : Act} {h1 h2 : Nat → Value} {o1 o2 : Obj} (k1 : Lays P o a h1 o1) (k2 : Lays P o a h2 o2) : o1 = o2 ∧ ∀ (g : Nat) (w : World), g ≤ w.heap.size → h1 g = h2 g := by
  have key : ∀ w : World, h1 w.heap.size = h2 w.heap.size ∧ w.alloc o1 = w.alloc o2 := fun w => by
    have := (k1 w).symm.trans (k2 w)
    simp only [Result.ok.injEq, Next.value.injEq] at this
    exact this
  refine ⟨?_, fun g w hg => ?_⟩
  · have := (key default).2
    have h3 : (default : World).heap.push o1 = (default : World).heap.push o2 := congrArg World.heap this
    have := Array.push_eq_push.1 h3
    exact this.1
  · have := (key { w with heap := w.heap.extract 0 g }).1
    simpa [Nat.min_eq_left hg] using this
theorem pend_ns {L : Nat → Option Id} {m : Id → Value} {s : St} {a : Act} {w : World} {o : Oper} (hp : pendOp o.op = true) (hd : dOk n o.dst) (R : RelC W0 S F n L m s a w) (h : opE P H o.dst o.op s K) : NS P W0 S F n K o L a w := by
  cases ho : o.op with
  | buildSlice T l ps => rw [ho] at h; exact n_build ho hd R h
  | alloc T => rw [ho] at h; exact n_alloc ho hd R h
  | box T x => rw [ho] at h; exact n_box ho hd R h
  | makeSlice T x y => rw [ho] at h; exact n_make ho hd R h
  | makeMap T r =>
    cases r with
    | none => rw [ho] at h; exact n_makeMap ho hd R h
    | some r => rw [ho] at hp; cases hp
  | _ => rw [ho] at hp; cases hp
theorem wp_act {o : Oper} {a : Act} {w : World} {K : Act → World → Prop} {Q : Exit → Act → World → Prop} (h : o.wp P a w K Q) : o.wp P a w (fun a' w' => K a' w' ∧ ∃ v, a'.tmps = (a.put o.dst v).tmps) Q := by
  unfold Oper.wp at *
  generalize (execOp a.eval o).run P w = r at *
  cases r with
  | ok nx w' =>
    cases nx with
    | value v => exact ⟨h, v, rfl⟩
    | skip => exact ⟨h, undef, rfl⟩
    | defer d =>
      refine ⟨h, undef, ?_⟩
      cases o.dst <;> rfl
    | enter f args => exact Calls.mono h fun e w'' hh => by cases e with | returned v => exact ⟨hh, v, rfl⟩ | panicked c => exact hh | outgrown => exact hh
    | row r args => exact Rows.mono h fun v w'' hh => ⟨hh, v, rfl⟩
    | _ => exact h
  | halt x w' => cases x <;> exact h
theorem tmps_put (a : Act) (d : Option Nat) (v : Value) {k : Nat} (h : ∀ x, d = some x → x ≠ k) : (a.put d v).tmps[k]? = a.tmps[k]? := by
  cases d with
  | none => rfl
  | some d => simp [Act.put, Array.getElem?_setIfInBounds, h d rfl]
structure PI where
  j : Nat
  d : Nat
  g : Nat
def left (l : Array Bool) : Nat := l.toList.count false
theorem left_set {l : Array Bool} {i : Nat} (h : l.getD i true = false) : left (l.setIfInBounds i true) + 1 = left l := by
  have hi : i < l.size := by
    rcases Nat.lt_or_ge i l.size with h' | h'
    · exact h'
    · simp [Array.getElem?_eq_none h'] at h
  have hv : l[i] = false := by simpa [hi] using h
  have hv' : l.toList[i]'(by simpa using hi) = false := by simpa using hv
  unfold left
  rw [Array.toList_setIfInBounds]
  have hpos : 0 < l.toList.count false := by
    rw [List.count_pos_iff]
    rw [← hv']; exact List.getElem_mem _
  rw [List.count_set (by simpa using hi), show (l.toList[i]'(by simpa using hi) == false) = true by rw [hv']; rfl]
  show l.toList.count false - 1 + 0 + 1 = l.toList.count false
  omega
theorem getD_listAll {l : Array Bool} : ∀ {ks : List Nat} {k : Nat} {b : Bool}, k < l.size → (listAll l ks).getD k b = (l.getD k b || decide (k ∈ ks)) := by
  intro ks
  induction ks generalizing l with
  | nil => intro k b h; simp [listAll]
  | cons x ks ih =>
    intro k b h
    show (listAll (l.setIfInBounds x true) ks).getD k b = _
    rw [ih (by simpa using h)]
    by_cases e : x = k
    · subst e; simp [h]
    · rw [getD_set_ne b e]
      simp [Ne.symm e]
theorem size_listAll {l : Array Bool} : ∀ {ks : List Nat}, (listAll l ks).size = l.size := by
  intro ks
  induction ks generalizing l with
  | nil => rfl
  | cons x ks ih => show (listAll (l.setIfInBounds x true) ks).size = _; rw [ih]; simp
theorem getD_any {l : Array Bool} {k : Nat} (h : k < l.size) (b : Bool) : l.getD k b = l.getD k false := by simp [h]
theorem eval_tmps {a b : Act} (h : a.tmps = b.tmps) : a.eval = b.eval := by
  funext x
  cases x <;> simp [Act.eval, h]
def AnnI (P : Program) (ops : Array Oper) (listed : Array Bool) (ann annD : List Nat) (a : Act) : Prop :=
  ∀ j ∈ ann, ∃ o d hdrOf obj, ops[j]? = some o ∧ pendOp o.op = true ∧ o.guard = none ∧ o.dst = some d ∧ Lays P o a hdrOf obj ∧ stableB ops listed j o = true ∧ d ∈ annD ∧ d ∉ o.looksAt ops
def PenI (P : Program) (ops : Array Oper) (W0 : Bs) (ann : List Nat) (X : List PI) (a : Act) (w w1 : World) : Prop :=
  ∀ p ∈ X, p.j ∈ ann ∧ ∃ o hdrOf obj, ops[p.j]? = some o ∧ o.dst = some p.d ∧ Lays P o a hdrOf obj ∧ a.tmps[p.d]? = some (hdrOf p.g) ∧ w.heap[p.g]? = some obj ∧ W0.ok p.g ∧ p.g < w1.heap.size
theorem mem_rmD {d : Option Nat} : ∀ {xs : List Nat} {x : Nat}, x ∈ xs → d ≠ some x → x ∈ rmD d xs
  | y :: ys, x, h, hd => by
    cases d with
    | none => exact h
    | some d =>
      show x ∈ sel (y == d) (rmD (some d) ys) (y :: rmD (some d) ys)
      rcases List.mem_cons.1 h with rfl | h
      · rw [show (x == d) = false by simpa using fun e => hd (by rw [e])]
        exact List.mem_cons_self
      · have := mem_rmD h hd
        cases (y == d) with
        | true => exact this
        | false => exact List.mem_cons_of_mem _ this
theorem stable_spec {listed : Array Bool} {j : Nat} {oj : Oper} (h : stableB ops listed j oj = true) {k : Nat} {ok : Oper} (hk : ops[k]? = some ok) (hne : k ≠ j) (hun : listed.getD k true = false) {d : Nat} (hd : ok.dst = some d) : d ∉ oj.looksAt ops ∧ oj.dst ≠ some d := by
  have hkl : k < ops.size := (Array.getElem?_eq_some_iff.1 hk).1
  have := List.all_eq_true.1 h k (List.mem_range.2 hkl)
  rw [hk] at this
  simp only [hun, hd, Bool.or_eq_true, beq_iff_eq, hne, Bool.false_eq_true, false_or, Bool.and_eq_true, Bool.not_eq_true', bne_iff_ne] at this
  exact ⟨fun hc => (by have h1 := this.1; rw [List.contains_iff_mem.2 hc] at h1; cases h1), this.2⟩
theorem stable_mono {listed : Array Bool} {j i : Nat} {oj : Oper} (h : stableB ops listed j oj = true) : stableB ops (listed.setIfInBounds i true) j oj = true := by
  refine List.all_eq_true.2 fun k hk => ?_
  have := List.all_eq_true.1 h k hk
  simp only [Bool.or_eq_true] at this ⊢
  rcases this with (h1 | h1) | h1
  · exact .inl (.inl h1)
  · left; right
    by_cases e : i = k
    · subst e
      rcases Nat.lt_or_ge i listed.size with h' | h'
      · simp [h']
      · simp [Array.getElem?_eq_none h']
    · rw [getD_set_ne true e]; exact h1
  · exact .inr h1
theorem AnnI.step {listed : Array Bool} {ann ann' annD : List Nat} {a a' : Act} {i : Nat} {oi : Oper} {v : Value} (h : AnnI P ops listed ann annD a) (hi : ops[i]? = some oi) (hun : listed.getD i true = false) (hsub : ∀ j ∈ ann', j ∈ ann ∧ j ≠ i) (ha : a'.tmps = (a.put oi.dst v).tmps) :
    AnnI P ops (listed.setIfInBounds i true) ann' (rmD oi.dst annD) a' := fun j hj => by
  obtain ⟨hja, hji⟩ := hsub j hj
  obtain ⟨o, d, hdrOf, obj, h1, h2, h3, h4, h5, h6, h7, h8⟩ := h j hja
  refine ⟨o, d, hdrOf, obj, h1, h2, h3, h4, fun w1 => ?_, stable_mono h6, mem_rmD h7 fun e => ?_, h8⟩
  · rw [eval_tmps ha]
    exact h5.put (ops := ops) h2 (fun x hx => (stable_spec h6 hi (Ne.symm hji) hun hx).1) w1
  · exact (stable_spec h6 hi (Ne.symm hji) hun e).2 h4
theorem PenI.step {listed : Array Bool} {ann ann' annD : List Nat} {X : List PI} {a a' : Act} {w w' w1 w2 : World} {i : Nat} {oi : Oper} {v : Value} (h : PenI P ops W0 ann X a w w1) (hA : AnnI P ops listed ann annD a) (hi : ops[i]? = some oi) (hun : listed.getD i true = false) (hX : ∀ p ∈ X, p.j ∈ ann' ∧ p.j ≠ i) (ha : a'.tmps = (a.put oi.dst v).tmps)
    (hw : X ≠ [] → ∀ b, b < w1.heap.size → w'.heap[b]? = w.heap[b]?) (hs : w1.heap.size ≤ w2.heap.size) : PenI P ops W0 ann' X a' w' w2 := fun p hp => by
  obtain ⟨hja, o, hdrOf, obj, h1, h2, h3, h4, h5, h6, h7⟩ := h p hp
  obtain ⟨h8, h9⟩ := hX p hp
  obtain ⟨o', d, _, _, k1, k2, k3, k4, k5, k6, k7, _⟩ := hA p.j hja
  obtain rfl := Option.some.inj (h1.symm.trans k1)
  refine ⟨h8, o, hdrOf, obj, h1, h2, fun w1 => ?_, ?_, ?_, h6, Nat.lt_of_lt_of_le h7 hs⟩
  · rw [eval_tmps ha]
    exact h3.put (ops := ops) k2 (fun x hx => (stable_spec k6 hi (Ne.symm h9) hun hx).1) w1
  · rw [ha, tmps_put a oi.dst v (fun x hx e => by subst e; exact (stable_spec k6 hi (Ne.symm h9) hun hx).2 h2)]
    exact h4
  · rw [hw (fun e => by rw [e] at hp; cases hp) p.g h7]; exact h5
theorem put_same {a : Act} {d : Nat} {v : Value} (h : a.tmps[d]? = some v) : a.put (some d) v = a := by
  have : a.tmps.setIfInBounds d v = a.tmps := by
    apply Array.ext (by simp)
    intro k h1 h2
    rw [Array.getElem_setIfInBounds]
    split
    · rename_i e; subst e
      obtain ⟨_, h3⟩ := Array.getElem?_eq_some_iff.1 h
      exact h3.symm
    · rfl
  cases a
  simp only [Act.put] at *
  rw [this]
theorem listed_ext {l l' : Array Bool} (h : l.size = l'.size) (hk : ∀ k, k < l.size → l'.getD k false = l.getD k false) : l' = l := by
  apply Array.ext h.symm
  intro k h1 h2
  have := hk k h2
  simpa [h1, h2] using this
theorem ready_of {l l' : Array Bool} (hs : l.size = ops.size) (hs' : l'.size = ops.size) (hle : ∀ k, k < ops.size → l.getD k false = true → l'.getD k false = true) {i : Nat} (hi : i ∈ Region.ready .any ops l) (hun : l'.getD i true = false) : i ∈ Region.ready .any ops l' := by
  obtain ⟨_, o, ho, hall⟩ := mem_ready.1 hi
  refine mem_ready.2 ⟨hun, o, ho, fun e he hb => ?_⟩
  have h1 := hall e he hb
  have : e.on < ops.size := by
    rcases Nat.lt_or_ge e.on l.size with h' | h'
    · omega
    · simp [Array.getElem?_eq_none h'] at h1
  exact hle _ this h1
theorem inj_of_nodup {α β : Type} {f : α → β} : ∀ {l : List α} {x y : α}, (l.map f).Nodup → x ∈ l → y ∈ l → x ≠ y → f x ≠ f y
  | z :: l, x, y, hn, hx, hy, hne => fun e => by
    rw [List.map_cons, List.nodup_cons] at hn
    rcases List.mem_cons.1 hx with h1 | h1 <;> rcases List.mem_cons.1 hy with h2 | h2
    · exact hne (h1.trans h2.symm)
    · exact hn.1 (by rw [← h1, e]; exact List.mem_map_of_mem h2)
    · exact hn.1 (by rw [← h2, ← e]; exact List.mem_map_of_mem h1)
    · exact inj_of_nodup hn.2 h1 h2 hne e
theorem one_stepM {Q : Exit → Act → World → Prop} {M : List Nat} {i : Nat} (hH : M.contains (i + 2000) = false → H 1000000 = 1) {o : Oper} (ho : ops[i]? = some o) (hd : dOk n o.dst) {m0 : Nat} {listed : Array Bool} {s : St} {a : Act} {w : World} (hR : Rel W0 S F n s a w) {K1 : St → Prop} (h : opsE P H (stripL ops [o]) s K1)
    (hk : ∀ s a w, Rel W0 S F n s a w → K1 s → wpAnyL P .any ops Q (stepTM ops M) m0 (listed.setIfInBounds i true) a w) :
    wpOp P ops Q i (fun a' w' => stepTM ops M i w w' ∧ wpAnyL P .any ops Q (stepTM ops M) m0 (listed.setIfInBounds i true) a' w') a w := by
  obtain ⟨L, m, R⟩ := hR
  rcases guard_cases R h with ⟨hw, s', R', h1⟩ | ⟨hw, s', R', h1⟩
  · unfold wpOp
    simp only [ho, hw, if_true]
    left
    refine Oper.wp_mono (fun a' w' hh => ?_) (op_sound hd R' h1 Q)
    obtain ⟨⟨s2, R2, h2⟩, hG⟩ := hh
    exact ⟨by unfold stepTM; rw [ho]; exact fun h3 h4 => hG (hH h4) h3, hk _ _ _ R2 h2⟩
  · have R2 := R'.put hd (x := .tup []) (v := undef) ⟨#[], rfl, rfl⟩
    unfold wpOp
    simp only [ho, hw, Bool.false_eq_true, if_false]
    exact ⟨stepTM_refl ops M i w, hk _ _ _ ⟨L, m, R2⟩ h1⟩
theorem quiet_step1M {M : List Nat} {i : Nat} (hlo : loadOk1M ops M i = true) {o : Oper} (ho : ops[i]? = some o) (hq : quietOp o.op = true) {w : World} {j : Nat} {l : Array Bool} {w1 w2 : World} (hc : Closed .any ops l) (hj : l.getD j false = true) (hi' : l.getD i true = false) (hT : stepTM ops M j w1 w2) (hS : Gr (memFree o.op) w w1) : Gr (memFree o.op) w w2 := by
  rcases hS with hS | hS
  · exact .inl hS
  · by_cases hmf : memFree o.op = true
    · exact .inl hmf
    · right
      refine hS.trans ?_
      unfold stepTM at hT
      cases hoj : ops[j]? with
      | none => rw [hoj] at hT; exact hT
      | some oj =>
        rw [hoj] at hT
        by_cases hg : growOp oj.op = true ∧ M.contains (j + 2000) = false
        · exact hT hg.1 hg.2
        · have hj1 : j < ops.size := (Array.getElem?_eq_some_iff.1 hoj).1
          have hl := List.all_eq_true.1 hlo j (List.mem_range.2 hj1)
          have hg' : (growOp oj.op && !M.contains (j + 2000)) = false := by
            cases e1 : growOp oj.op <;> cases e2 : M.contains (j + 2000) <;> simp_all
          simp only [ho, hoj, hq, hg'] at hl
          simp [hmf] at hl
          have := hc.anc hl hj
          rw [← Bool.not_eq_true] at hi'
          exfalso
          rcases Nat.lt_or_ge i l.size with h' | h'
          · simp [h'] at this hi'; rw [this] at hi'; cases hi'
          · simp [Array.getElem?_eq_none h'] at this
theorem isT_unT {i : Nat} (h : isT i = true) : unT i = i := by unfold unT; rw [h]; rfl
theorem isU_unT {i : Nat} (h : isT i = false) : unT i = i - 2000 := by unfold unT; rw [h]; rfl
theorem tree_sound {Q : Exit → Act → World → Prop} {M : List Nat} (hsel : Region.noSelect ops = true) (hpan : ∀ c a w, ¬ Q (.panic c) a w) {K : St → Prop} (hdst : ∀ o ∈ ops.toList, dOk n o.dst) (hQ : ∀ s a w, Rel W0 S F n s a w → K s → Q .normal a w) : ∀ (f π : List Nat) (m0 : Nat) {listed : Array Bool} {s : St} {a : Act} {w : World}, left listed ≤ m0 → Closed .any ops listed → Rel W0 S F n s a w → opsT P H ops f π s K →
    (treeOk ops M f π listed false = true → wpAnyL P .any ops Q (stepTM ops M) m0 listed a w) ∧ (treeOk ops M f π listed true = true → ∀ m1, m0 = m1 + 1 → π ≠ [] → isO (hdN π) = true → unT (hdN π) ∈ Region.ready .any ops listed → wpOp P ops Q (unT (hdN π)) (fun a' w' => stepTM ops M (unT (hdN π)) w w' ∧ wpAnyL P .any ops Q (stepTM ops M) m1 (listed.setIfInBounds (unT (hdN π)) true) a' w') a w)
  | f, [], m0, listed, s, a, w, hl, hcl, hR, h => by
    have hk : K s := by cases f <;> exact h
    refine ⟨fun hd => ?_, fun _ _ _ hne => absurd rfl hne⟩
    have hd : (Region.ready .any ops listed).isEmpty = true := by cases f <;> exact hd
    have h0 : Region.ready .any ops listed = [] := by simpa using hd
    cases m0 with
    | zero => exact ⟨h0, hQ s a w hR hk⟩
    | succ m => exact ⟨fun _ => hQ s a w hR hk, fun i hi => by rw [h0] at hi; cases hi⟩
  | [], _ :: _, _, _, _, _, _, _, _, _, h => h.elim
  | _ :: f, i :: π, m0, listed, s, a, w, hl, hcl, hR, h => by
    have h : sel (isT i) (onOp (ops[i]?) fun o => opsE P (hBl H) (stripL ops [o]) s fun s' => opsT P H ops f π s' K) (sel (isU i) (onOp (ops[i - 2000]?) fun o => opsE P H (stripL ops [o]) s fun s' => opsT P H ops f π s' K) (opsT P H ops f (π.take (i - 900)) s K ∧ opsT P H ops f (π.drop (i - 900)) s K)) := h
    cases hi : isT i with
    | true =>
      rw [hi] at h
      have h : onOp (ops[i]?) _ := h
      cases ho : ops[i]? with
      | none => rw [ho] at h; exact h.elim
      | some o =>
        rw [ho] at h
        have h : opsE P (hBl H) (stripL ops [o]) s fun s' => opsT P H ops f π s' K := h
        have hmem : o ∈ ops.toList := by
          have := Array.mem_of_getElem? ho
          simpa using this
        have stp : ∀ m1, m0 = m1 + 1 → treeOk ops M f π (listed.setIfInBounds i true) false = true → i ∈ Region.ready .any ops listed → wpOp P ops Q i (fun a' w' => stepTM ops M i w w' ∧ wpAnyL P .any ops Q (stepTM ops M) m1 (listed.setIfInBounds i true) a' w') a w := fun m1 hm hrest hrd =>
          one_stepM (H := hBl H) (fun _ => rfl) ho (hdst o hmem) hR h fun s a w hR' hk => (tree_sound hsel hpan hdst hQ f π m1 (by have := left_set (mem_ready.1 hrd).1; omega) (hcl.set hrd) hR' hk).1 hrest
        refine ⟨fun hd => ?_, fun hd m1 hm _ _ hrd => ?_⟩
        · unfold treeOk at hd
          rw [hi] at hd
          simp only [if_true, Bool.and_eq_true, Bool.or_eq_true, Bool.false_or, Bool.false_eq_true, false_or, beq_iff_eq] at hd
          obtain ⟨⟨⟨hrd, _⟩, hcase⟩, hrest⟩ := hd
          have hrd : i ∈ Region.ready .any ops listed := by simpa using hrd
          have hls := left_set (mem_ready.1 hrd).1
          obtain ⟨m1, rfl⟩ : ∃ m1, m0 = m1 + 1 := ⟨m0 - 1, by omega⟩
          rw [ho] at hcase
          simp only [Bool.and_eq_true] at hcase
          by_cases hone : Region.ready .any ops listed = [i]
          · refine ⟨fun h0 => (by rw [hone] at h0; cases h0), fun j hj => ?_⟩
            rw [hone] at hj
            obtain rfl : j = i := by simpa using hj
            exact stp m1 rfl hrest hrd
          · obtain ⟨⟨hq, hfr⟩, hlo⟩ := hcase.resolve_right hone
            obtain ⟨L, m, R⟩ := hR
            rcases guard_cases R h with ⟨hw, s', R', h1⟩ | ⟨hw, s', R', h1⟩
            · obtain ⟨v, s2, hrun, R2, h2⟩ := quiet_sound hq (hdst o hmem) R' h1
              have h2 : opsT P H ops f π s2 K := h2
              exact wpAnyL_first (S0 := fun w' => Gr (memFree o.op) w w') ho (Region.noSelect_spec hsel) (fun c a w hp => absurd hp (hpan _ _ _)) (stepTM_refl ops M i) (fun j l w1 w2 hc hj hi' hT hS => quiet_step1M hlo ho hq hc hj hi' hT hS) m1 listed a w hcl (Region.free_spec ho hfr) hrd (.inl ⟨hw, hrun⟩) (.inr (Grows.refl w))
                ((tree_sound hsel hpan hdst hQ f π m1 (by omega) (hcl.set hrd) R2 h2).1 hrest)
            · have R2 := R'.put (hdst o hmem) (x := .tup []) (v := undef) ⟨#[], rfl, rfl⟩
              have h1 : opsT P H ops f π (s'.put o.dst (.tup [])) K := h1
              exact wpAnyL_first (S0 := fun _ => True) ho (Region.noSelect_spec hsel) (fun c a w hp => absurd hp (hpan _ _ _)) (stepTM_refl ops M i) (fun _ _ _ _ _ _ _ _ _ => trivial) m1 listed a w hcl (Region.free_spec ho hfr) hrd (.inr ⟨hw, rfl⟩) trivial
                ((tree_sound hsel hpan hdst hQ f π m1 (by omega) (hcl.set hrd) ⟨L, m, R2⟩ h1).1 hrest)
        · unfold treeOk at hd
          rw [hi] at hd
          simp only [if_true, Bool.and_eq_true] at hd
          rw [show hdN (i :: π) = i from rfl, isT_unT hi] at hrd ⊢
          exact stp m1 hm hd.2 hrd
    | false =>
    rw [hi] at h
    have h : sel (isU i) (onOp (ops[i - 2000]?) fun o => opsE P H (stripL ops [o]) s fun s' => opsT P H ops f π s' K) (opsT P H ops f (π.take (i - 900)) s K ∧ opsT P H ops f (π.drop (i - 900)) s K) := h
    cases hu : isU i with
    | true =>
      rw [hu] at h
      have h : onOp (ops[i - 2000]?) _ := h
      have hge : i - 2000 + 2000 = i := by
        rw [isU_eq] at hu
        have : 2000 - i = 0 := by simpa using hu
        omega
      cases ho : ops[i - 2000]? with
      | none => rw [ho] at h; exact h.elim
      | some o =>
        rw [ho] at h
        have h : opsE P H (stripL ops [o]) s fun s' => opsT P H ops f π s' K := h
        have hmem : o ∈ ops.toList := by
          have := Array.mem_of_getElem? ho
          simpa using this
        have stp : ∀ m1, m0 = m1 + 1 → M.contains i = true → treeOk ops M f π (listed.setIfInBounds (i - 2000) true) false = true → i - 2000 ∈ Region.ready .any ops listed → wpOp P ops Q (i - 2000) (fun a' w' => stepTM ops M (i - 2000) w w' ∧ wpAnyL P .any ops Q (stepTM ops M) m1 (listed.setIfInBounds (i - 2000) true) a' w') a w := fun m1 hm hc hrest hrd =>
          one_stepM (H := H) (fun h0 => by rw [hge, hc] at h0; cases h0) ho (hdst o hmem) hR h fun s a w hR' hk => (tree_sound hsel hpan hdst hQ f π m1 (by have := left_set (mem_ready.1 hrd).1; omega) (hcl.set hrd) hR' hk).1 hrest
        refine ⟨fun hd => ?_, fun hd m1 hm _ _ hrd => ?_⟩
        · unfold treeOk at hd
          rw [hi, hu] at hd
          simp only [if_true, if_false, Bool.and_eq_true, Bool.false_or, Bool.false_eq_true, beq_iff_eq] at hd
          obtain ⟨⟨⟨hrd, hc⟩, hone⟩, hrest⟩ := hd
          have hrd : i - 2000 ∈ Region.ready .any ops listed := by simpa using hrd
          have hls := left_set (mem_ready.1 hrd).1
          obtain ⟨m1, rfl⟩ : ∃ m1, m0 = m1 + 1 := ⟨m0 - 1, by omega⟩
          refine ⟨fun h0 => (by rw [hone] at h0; cases h0), fun j hj => ?_⟩
          rw [hone] at hj
          have e := List.mem_singleton.1 hj
          rw [e]
          exact stp m1 rfl hc hrest hrd
        · unfold treeOk at hd
          rw [hi, hu] at hd
          simp only [if_true, if_false, Bool.and_eq_true, Bool.false_eq_true] at hd
          rw [show hdN (i :: π) = i from rfl, isU_unT hi] at hrd ⊢
          exact stp m1 hm hd.1.1.2 hd.2 hrd
    | false =>
      rw [hu] at h
      obtain ⟨hA, hB⟩ : opsT P H ops f (π.take (i - 900)) s K ∧ opsT P H ops f (π.drop (i - 900)) s K := h
      refine ⟨fun hd => ?_, fun _ _ _ _ ht => by rw [show hdN (i :: π) = i from rfl] at ht; unfold isO at ht; rw [hi, hu] at ht; cases ht⟩
      unfold treeOk at hd
      rw [hi, hu] at hd
      simp only [Bool.false_eq_true, if_false, Bool.and_eq_true, Bool.not_false, true_and, Bool.not_eq_true'] at hd
      obtain ⟨⟨⟨⟨⟨⟨⟨hne, hta⟩, htb⟩, hnA⟩, hnB⟩, hall⟩, hokA⟩, hokB⟩ := hd
      generalize π.take (i - 900) = A at hA hta hnA hall hokA
      generalize π.drop (i - 900) = B at hB htb hnB hall hokB
      have hne : Region.ready .any ops listed ≠ [] := by intro h0; rw [h0] at hne; cases hne
      obtain ⟨j0, hj0⟩ := List.exists_mem_of_ne_nil _ hne
      have hls := left_set (mem_ready.1 hj0).1
      obtain ⟨m1, rfl⟩ : ∃ m1, m0 = m1 + 1 := ⟨m0 - 1, by omega⟩
      have hA' := (tree_sound hsel hpan hdst hQ f A (m1 + 1) hl hcl hR hA).2 hokA m1 rfl (by intro h0; rw [h0] at hnA; cases hnA) hta
      have hB' := (tree_sound hsel hpan hdst hQ f B (m1 + 1) hl hcl hR hB).2 hokB m1 rfl (by intro h0; rw [h0] at hnB; cases hnB) htb
      refine ⟨fun h0 => absurd h0 hne, fun j hj => ?_⟩
      have hjj := List.all_eq_true.1 hall j hj
      simp only [Bool.or_eq_true, beq_iff_eq] at hjj
      rcases hjj with rfl | rfl
      · exact hA' hj
      · exact hB' hj
theorem opsD_eq (ann : List Nat) (i : Nat) (π : List Nat) (s : St) : opsD P H ops ann (i :: π) s K = sel (isX i)
    (onOp (ops[i]?) fun o => opsE P H (stripL ops [o]) s fun s' => opsD P H ops (rmD o.dst ann) π (s'.anys (rmD o.dst ann)) K)
    (onOp (ops[i - 1000]?) fun o => onSome o.dst fun d => ask (opE P H (some d) o.op s (fun _ => True)) (opsD P H ops (d :: ann) π (s.anys [d]) K)) := by rw [opsD]
theorem drawD_sound {Q : Exit → Act → World → Prop} (hH : H 1000000 = 1) (hsel : Region.noSelect ops = true) (hlo : loadsOk ops = true) (hpan : ∀ c a w, ¬ Q (.panic c) a w) (hold : ∀ b, S b ∨ F b → ¬ W0.ok b) (hdst : ∀ o ∈ ops.toList, dOk n o.dst) (hQ : ∀ s a w, Rel W0 S F n s a w → K s → Q .normal a w) :
    ∀ (N : Nat) (π ann annD : List Nat) (listed l' : Array Bool) (X : List PI) (s : St) (a : Act) (w w1 : World) (m : Nat), π.length + m ≤ N → left l' ≤ m → drawOkD ops π listed ann = true → Closed .any ops l' → listed.size = ops.size → l'.size = ops.size →
      (∀ k, k < ops.size → l'.getD k false = (listed.getD k false || decide (k ∈ X.map PI.j))) → AnnI P ops listed ann annD a → (∀ d ∈ annD, s.env d = .any) → PenI P ops W0 ann X a w w1 → (X.map PI.j).Nodup → (X.map PI.g).Nodup → W0.bel w1 → Rel (W0.less (X.map PI.g) w1) S F n s a w → opsD P H ops annD π s K → wpAnyL P .any ops Q (stepT ops) m l' a w := by
  intro N
  induction N with
  | zero =>
    intro π ann annD listed l' X s a w w1 m hN hm hd hcl hsz hsz' hl hA hany hP hnj hng hB hR h
    obtain rfl : m = 0 := by omega
    obtain rfl : π = [] := List.eq_nil_of_length_eq_zero (by omega)
    simp only [drawOkD, Bool.and_eq_true, List.isEmpty_iff] at hd
    have hX : X = [] := by
      cases X with
      | nil => rfl
      | cons p X => have := (hP p List.mem_cons_self).1; rw [hd.2] at this; cases this
    subst hX
    have e := listed_ext (l := listed) (l' := l') (by rw [hsz, hsz']) (fun k hk => by rw [hl k (by omega)]; simp)
    subst e
    obtain ⟨L, m', R⟩ := hR
    exact ⟨hd.1, hQ s a w ⟨L, m', unbase R hold hB⟩ h⟩
  | succ N ih =>
    intro π ann annD listed l' X s a w w1 m hN hm hd hcl hsz hsz' hl hA hany hP hnj hng hB hR h
    cases π with
    | nil =>
      simp only [drawOkD, Bool.and_eq_true, List.isEmpty_iff] at hd
      have hX : X = [] := by
        cases X with
        | nil => rfl
        | cons p X => have := (hP p List.mem_cons_self).1; rw [hd.2] at this; cases this
      subst hX
      have e := listed_ext (l := listed) (l' := l') (by rw [hsz, hsz']) (fun k hk => by rw [hl k (by omega)]; simp)
      subst e
      obtain ⟨L, m', R⟩ := hR
      have fin := hQ s a w ⟨L, m', unbase R hold hB⟩ h
      cases m with
      | zero => exact ⟨hd.1, fin⟩
      | succ m => exact ⟨fun _ => fin, fun i hi => by rw [hd.1] at hi; cases hi⟩
    | cons i π =>
      have hN' : π.length + 1 + m ≤ N + 1 := by simpa using hN
      have hw1 : w1.heap.size ≤ w.heap.size := by obtain ⟨_, _, R⟩ := hR; exact R.below.size
      have hle : ∀ k, k < ops.size → listed.getD k false = true → l'.getD k false = true := fun k hk h1 => by rw [hl k hk, h1]; rfl
      have hun' : ∀ k, l'.getD k true = false → listed.getD k true = false ∧ k ∉ X.map PI.j := fun k hk => by
        have hkl : k < ops.size := by
          rcases Nat.lt_or_ge k l'.size with h' | h'
          · omega
          · simp [Array.getElem?_eq_none h'] at hk
        have h1 := hl k hkl
        rw [← getD_any (by omega) true, hk] at h1
        have h2 := Bool.or_eq_false_iff.1 h1.symm
        exact ⟨by rw [getD_any (by omega) true]; exact h2.1, by simpa using h2.2⟩
      by_cases hi : isX i = true
      · -- executed
        have h : onOp (ops[i]?) fun o => opsE P H (stripL ops [o]) s fun s' => opsD P H ops (rmD o.dst annD) π (s'.anys (rmD o.dst annD)) K := by
          rw [opsD_eq, hi] at h; exact h
        rw [drawOkD, if_pos hi] at hd
        simp only [Bool.and_eq_true] at hd
        obtain ⟨⟨hrd, hcase⟩, hrest⟩ := hd
        have hrd : i ∈ Region.ready .any ops listed := by simpa using hrd
        cases ho : ops[i]? with
        | none => rw [ho] at hcase; cases hcase
        | some o =>
          rw [ho] at hcase h
          have hE : opsE P H (strip ops o :: []) s fun s' => opsD P H ops (rmD o.dst annD) π (s'.anys (rmD o.dst annD)) K := h
          have hmem : o ∈ ops.toList := by
            have := Array.mem_of_getElem? ho
            simpa using this
          have hiu : listed.getD i true = false := (mem_ready.1 hrd).1
          have hil : i < ops.size := (Array.getElem?_eq_some_iff.1 ho).1
          have hsub : ∀ j ∈ ann.filter (· != i), j ∈ ann ∧ j ≠ i := fun j hj => by simpa using hj
          have hsz2 : (listed.setIfInBounds i true).size = ops.size := by simpa using hsz
          by_cases hpi : i ∈ X.map PI.j
          · -- it has come up already
            obtain ⟨p, hp, hpj⟩ := List.mem_map.1 hpi
            obtain ⟨hja, o', hdrOf, obj, h1, h2, h3, h4, h5, h6, h7⟩ := hP p hp
            rw [hpj] at h1 hja
            obtain rfl := Option.some.inj (ho.symm.trans h1)
            obtain ⟨o', d', _, _, k1, k2, k3, k4, k5, k6, k7, _⟩ := hA i hja
            obtain rfl := Option.some.inj (ho.symm.trans k1)
            have hop : opE P H o.dst o.op s (fun s' => opsD P H ops (rmD o.dst annD) π (s'.anys (rmD o.dst annD)) K) := by
              rw [show strip ops o = ⟨o.dst, o.op, none⟩ by simp [strip, k3, gOf]] at hE
              exact hE
            obtain ⟨L, m', R⟩ := hR
            have hLg : L p.g = none := by
              cases hL : L p.g with
              | none => rfl
              | some q =>
                rcases (R.lab p.g q hL).1 with h8 | h8
                · exact absurd h7 (Nat.not_lt_of_le h8)
                · exact absurd (List.mem_map.2 ⟨p, hp, rfl⟩) h8.2
            have hgw : p.g < w.heap.size := Nat.lt_of_lt_of_le h7 hw1
            have hsubX : ∀ q ∈ X.filter (fun q => q.j != i), q ∈ X ∧ q.j ≠ i := fun q hq => by simpa using hq
            have hgX : p.g ∉ (X.filter (fun q => q.j != i)).map PI.g := fun hc => by
              obtain ⟨q, hq, e⟩ := List.mem_map.1 hc
              obtain ⟨hqX, hqi⟩ := hsubX q hq
              have : q = p := Classical.byContradiction fun hne => inj_of_nodup hng hqX hp hne e
              exact hqi (this ▸ hpj)
            have R2 := rebase (G' := (X.filter (fun q => q.j != i)).map PI.g) R hold hB (fun g hg => by obtain ⟨q, hq, rfl⟩ := List.mem_map.1 hg; exact (hP q hq).2.choose_spec.choose_spec.choose_spec.2.2.2.2.2.2) (fun g hg => by
              obtain ⟨q, hq, rfl⟩ := List.mem_map.1 hg
              exact .inl (List.mem_map.2 ⟨q, (hsubX q hq).1, rfl⟩)) (fun g hg => by
              obtain ⟨q, hq, rfl⟩ := List.mem_map.1 hg
              exact Nat.lt_of_lt_of_le ((hP q (hsubX q hq).1).2.choose_spec.choose_spec.choose_spec.2.2.2.2.2.2) hw1)
            obtain ⟨hdr', obj', hl', hns⟩ := pend_ns k2 (hdst o hmem) R2 hop
            obtain ⟨e1, e2⟩ := Lays.uniq h3 hl'
            obtain ⟨s2, hR2, hK2⟩ := hns w p.g ⟨rfl, rfl, rfl, Nat.le_refl _, fun _ _ _ => rfl, hgw⟩ (.inr ⟨h6, hgX⟩) hLg (by rw [← e1]; exact h5)
            have hput : a.put o.dst (hdr' p.g) = a := by
              rw [h2, ← e2 p.g w (Nat.le_of_lt hgw)]
              exact put_same h4
            rw [hput] at hR2
            obtain ⟨L2, m2, R3⟩ := hR2
            have hBw : W0.bel w := less_bel hB R.below
            refine ih π (ann.filter (· != i)) (rmD o.dst annD) (listed.setIfInBounds i true) l' (X.filter (fun q => q.j != i)) (s2.anys (rmD o.dst annD)) a w w m (by omega) hm hrest hcl hsz2 hsz' (fun k hk => ?_) ?_ (fun d hd => anys_get _ _ _ hd) ?_ ?_ ?_ hBw ⟨L2, m2, R3.anys _⟩ hK2
            · rw [hl k hk]
              by_cases e : k = i
              · subst e
                have : (listed.setIfInBounds k true).getD k false = true := by simp [hsz, hk]
                rw [this]
                simp [hpi]
              · rw [getD_set_ne false (Ne.symm e)]
                congr 1
                refine decide_eq_decide.2 ⟨fun hc => ?_, fun hc => ?_⟩
                · obtain ⟨q, hq, rfl⟩ := List.mem_map.1 hc
                  exact List.mem_map.2 ⟨q, by simpa using ⟨hq, e⟩, rfl⟩
                · obtain ⟨q, hq, rfl⟩ := List.mem_map.1 hc
                  exact List.mem_map.2 ⟨q, (hsubX q hq).1, rfl⟩
            · exact hA.step (v := hdr' p.g) ho hiu hsub (by rw [hput])
            · exact PenI.step (v := hdr' p.g) (fun q hq => hP q (hsubX q hq).1) hA ho hiu (fun q hq => ⟨by simpa using ⟨(hP q (hsubX q hq).1).1, (hsubX q hq).2⟩, (hsubX q hq).2⟩) (by rw [hput]) (fun _ _ _ => rfl) hw1
            · exact List.Nodup.sublist (List.Sublist.map _ List.filter_sublist) hnj
            · exact List.Nodup.sublist (List.Sublist.map _ List.filter_sublist) hng
          · -- it comes up now, or another before it
            have hiu' : l'.getD i true = false := by
              rw [getD_any (by omega), hl i hil, ← getD_any (by omega) true, hiu]
              simpa using hpi
            have hrd' : i ∈ Region.ready .any ops l' := ready_of hsz hsz' hle hrd hiu'
            have hls := left_set hiu'
            obtain ⟨m, rfl⟩ : ∃ m', m = m' + 1 := ⟨m - 1, by omega⟩
            have hX1 : ∀ p ∈ X, p.j ∈ ann.filter (· != i) ∧ p.j ≠ i := fun p hp => by
              have hne : p.j ≠ i := fun e => hpi (List.mem_map.2 ⟨p, hp, e⟩)
              exact ⟨by simpa using ⟨(hP p hp).1, hne⟩, hne⟩
            have hl2 : ∀ k, k < ops.size → (l'.setIfInBounds i true).getD k false = ((listed.setIfInBounds i true).getD k false || decide (k ∈ X.map PI.j)) := fun k hk => by
              by_cases e : k = i
              · subst e
                simp [hsz, hsz', hk]
              · rw [getD_set_ne false (Ne.symm e), getD_set_ne false (Ne.symm e)]; exact hl k hk
            have hszl : (l'.setIfInBounds i true).size = ops.size := by simpa using hsz'
            have hng' : ∀ {a' : Act} {w' : World} {v : Value} {s2 : St}, a'.tmps = (a.put o.dst v).tmps → (X ≠ [] → ∀ b, b < w1.heap.size → w'.heap[b]? = w.heap[b]?) → Rel (W0.less (X.map PI.g) w1) S F n s2 a' w' → opsD P H ops (rmD o.dst annD) π (s2.anys (rmD o.dst annD)) K → wpAnyL P .any ops Q (stepT ops) m (l'.setIfInBounds i true) a' w' := fun ha hw' hR2 hK2 => by
              obtain ⟨L2, m2, R2⟩ := hR2
              exact ih π (ann.filter (· != i)) (rmD o.dst annD) (listed.setIfInBounds i true) (l'.setIfInBounds i true) X _ _ _ w1 m (by omega) (by omega) hrest (hcl.set hrd') hsz2 hszl hl2 (hA.step ho hiu hsub ha) (fun d hd => anys_get _ _ _ hd) (PenI.step hP hA ho hiu hX1 ha hw' (Nat.le_refl _)) hnj hng hB ⟨L2, m2, R2.anys _⟩ hK2
            obtain ⟨L, m', R⟩ := hR
            simp only [Bool.or_eq_true, Bool.and_eq_true, beq_iff_eq] at hcase
            by_cases hq : quietOp o.op = true ∧ Region.free .any ops listed i = true
            · -- it only looks
              have hfree : ∀ (j : Nat) (oj : Oper), ops[j]? = some oj → j ≠ i → l'.getD j true = false → (∀ e ∈ oj.after, Region.binds .any e = true → e.on ≠ i) → o.apart ops oj = true := fun j oj hj hji hun hno => Region.free_spec ho hq.2 j oj hj hji (hun' j hun).1 hno
              rcases guard_cases R hE with ⟨hw, s', R', h1⟩ | ⟨hw, s', R', h1⟩
              · obtain ⟨v, s2, hrun, R2, h2⟩ := quiet_sound hq.1 (hdst o hmem) R' h1
                refine wpAnyL_first (S0 := fun w' => Gr (memFree o.op) w w') ho (Region.noSelect_spec hsel) (fun c a w hp => absurd hp (hpan _ _ _)) (stepT_refl ops i) (fun j l w1 w2 hc hj hi' hT hS => quiet_step hlo ho hq.1 hc hj hi' hT hS) m l' a w hcl hfree hrd' (.inl ⟨hw, hrun⟩) (.inr (Grows.refl w))
                  (hng' (v := v) rfl (fun _ _ _ => rfl) R2 h2)
              · have R2 := R'.put (hdst o hmem) (x := .tup []) (v := undef) ⟨#[], rfl, rfl⟩
                exact wpAnyL_first (S0 := fun _ => True) ho (Region.noSelect_spec hsel) (fun c a w hp => absurd hp (hpan _ _ _)) (stepT_refl ops i) (fun _ _ _ _ _ _ _ _ _ => trivial) m l' a w hcl hfree hrd' (.inr ⟨hw, rfl⟩) trivial
                  (hng' (v := undef) rfl (fun _ _ _ => rfl) ⟨L, m', R2⟩ h1)
            · have hcase := hcase.resolve_left (fun hc => hq hc.1)
              refine ⟨fun h0 => (by rw [h0] at hrd'; cases hrd'), fun k hk => ?_⟩
              have hku := (mem_ready.1 hk).1
              obtain ⟨hku1, hku2⟩ := hun' k hku
              have hki : k = i ∨ k ∈ ann.filter (· != i) := by
                by_cases hka : k ∈ ann.filter (· != i)
                · exact .inr hka
                · left
                  have hkl : k < ops.size := by obtain ⟨_, o', h', _⟩ := mem_ready.1 hk; exact (Array.getElem?_eq_some_iff.1 h').1
                  have : k ∈ Region.ready .any ops (listAll listed (ann.filter (· != i))) := by
                    refine ready_of (l := l') hsz' (by rw [size_listAll]; exact hsz) (fun k' hk' h' => ?_) hk ?_
                    · rw [getD_listAll (by omega)]
                      rw [hl k' hk'] at h'
                      rcases Bool.or_eq_true_iff.1 h' with h' | h'
                      · rw [h']; rfl
                      · obtain ⟨q, hq', rfl⟩ := List.mem_map.1 (by simpa using h')
                        simp [(hX1 q hq').1, (hP q hq').1, (hX1 q hq').2]
                    · rw [getD_listAll (by omega), hku1]
                      simpa using hka
                  rw [hcase.1] at this
                  simpa using this
              rcases hki with rfl | hka
              · -- it comes up
                unfold wpOp
                simp only [ho]
                have hgr : X ≠ [] → growOp o.op = true := fun hX => by
                  rcases hcase.2 with h' | h'
                  · exfalso
                    obtain ⟨p, hp⟩ := List.exists_mem_of_ne_nil X hX
                    have := (hX1 p hp).1
                    rw [List.isEmpty_iff.1 h'] at this
                    cases this
                  · exact h'
                rcases guard_cases R hE with ⟨hw, s', R', h1⟩ | ⟨hw, s', R', h1⟩
                · rw [if_pos hw]
                  left
                  refine Oper.wp_mono (fun a' w' hh => ?_) (wp_act (op_sound (hdst o hmem) R' h1 Q))
                  obtain ⟨⟨⟨s2, R2, h2⟩, hG⟩, v, ha⟩ := hh
                  refine ⟨by unfold stepT; rw [ho]; exact hG hH, hng' ha (fun hX b hb => ?_) R2 h2⟩
                  exact (hG hH (hgr hX)).block b (Nat.lt_of_lt_of_le hb hw1)
                · rw [if_neg (by rw [hw]; simp)]
                  have R2 := R'.put (hdst o hmem) (x := .tup []) (v := undef) ⟨#[], rfl, rfl⟩
                  exact ⟨stepT_refl ops k w, hng' (v := undef) rfl (fun _ _ _ => rfl) ⟨L, m', R2⟩ h1⟩
              · -- another comes up early
                obtain ⟨hkA, hkne⟩ := hsub k hka
                obtain ⟨ok, d, hdrOf, obj, k1, k2, k3, k4, k5, k6, k7, k8⟩ := hA k hkA
                have hokm : ok ∈ ops.toList := by
                  have := Array.mem_of_getElem? k1
                  simpa using this
                have hdok := hdst ok hokm
                have hgo : growOp ok.op = true := by
                  cases e : ok.op <;> rw [e] at k2 <;> first | rfl | cases k2
                unfold wpOp
                simp only [k1]
                rw [if_pos (by simp [Region.wanted, k3])]
                left
                unfold Oper.wp
                rw [k5 w]
                have hwa := wrote_alloc w obj
                have hbl : ∀ b, b < w.heap.size → (w.alloc obj).heap[b]? = w.heap[b]? := fun b hb => hwa.other b (by omega) hb
                have hlsk := left_set hku
                have R1 : RelC (W0.less (X.map PI.g) w1) S F n L m' s (a.put ok.dst (hdrOf w.heap.size)) w := by
                  have := R.put hdok (x := .any) (v := hdrOf w.heap.size) trivial
                  rw [k4] at this ⊢
                  rwa [put_any_eq (hany d k7)] at this
                have R2 := R1.grow (w' := w.alloc obj) hbl (hwa.below R.below (.inl R.below.size)) (by simp)
                have hLn : L w.heap.size = none := by
                  cases hL : L w.heap.size with
                  | none => rfl
                  | some q => exact absurd (R.lab _ q hL).2 (by omega)
                have hBw : W0.bel (w.alloc obj) := less_bel hB R2.below
                have R3 := rebase (G' := w.heap.size :: X.map PI.g) R2 hold hB (fun g hg => by obtain ⟨q, hq', rfl⟩ := List.mem_map.1 hg; exact (hP q hq').2.choose_spec.choose_spec.choose_spec.2.2.2.2.2.2) (fun g hg => by
                  rcases List.mem_cons.1 hg with rfl | hg
                  · exact .inr ⟨hw1, hLn⟩
                  · exact .inl hg) (fun g hg => by
                  rcases List.mem_cons.1 hg with rfl | hg
                  · exact hwa.lt
                  · obtain ⟨q, hq', rfl⟩ := List.mem_map.1 hg
                    exact Nat.lt_of_lt_of_le ((hP q hq').2.choose_spec.choose_spec.choose_spec.2.2.2.2.2.2) (Nat.le_trans hw1 hwa.size))
                have hsz3 : w1.heap.size ≤ (w.alloc obj).heap.size := Nat.le_trans hw1 hwa.size
                refine ⟨by unfold stepT; rw [k1]; exact fun _ => ⟨hwa.size, hbl⟩, ?_⟩
                have hapart : ∀ p ∈ X, p.j ≠ k := fun p hp e => hku2 (List.mem_map.2 ⟨p, hp, e⟩)
                have hgnew : w.heap.size ∉ X.map PI.g := fun hc => by
                  obtain ⟨q, hq', e⟩ := List.mem_map.1 hc
                  have := (hP q hq').2.choose_spec.choose_spec.choose_spec.2.2.2.2.2.2
                  omega
                have hd' : drawOkD ops (i :: π) listed ann = true := by
                  rw [drawOkD, if_pos hi, ho]
                  simp only [Bool.and_eq_true, Bool.or_eq_true, beq_iff_eq]
                  exact ⟨⟨by simpa using hrd, .inr hcase⟩, hrest⟩
                have hkstep : ∀ (j : Nat) (oj : Oper), j ∈ ann → ops[j]? = some oj → j ≠ k → pendOp oj.op = true → stableB ops listed j oj = true → ∀ x, ok.dst = some x → x ∉ oj.looksAt ops ∧ oj.dst ≠ some x := fun j oj hj hoj hjk _ hst x hx => stable_spec hst k1 (Ne.symm hjk) hku1 hx
                refine ih (i :: π) ann annD listed (l'.setIfInBounds k true) (⟨k, d, w.heap.size⟩ :: X) s _ (w.alloc obj) (w.alloc obj) m (by simp; omega) (by omega) hd' (hcl.set hk) hsz (by simpa using hsz') (fun k' hk' => ?_) ?_ hany ?_ ?_ ?_ hBw ⟨L, m', R3⟩ ?_
                · by_cases e : k' = k
                  · subst e
                    simp [hsz', hk']
                  · rw [getD_set_ne false (Ne.symm e), hl k' hk']
                    simp [e]
                · intro j hj
                  obtain ⟨oj, dj, hdj, objj, j1, j2, j3, j4, j5, j6, j7⟩ := hA j hj
                  refine ⟨oj, dj, hdj, objj, j1, j2, j3, j4, ?_, j6, j7⟩
                  by_cases e : j = k
                  · subst e
                    obtain rfl := Option.some.inj (k1.symm.trans j1)
                    exact j5.put (ops := ops) j2 (fun x hx hc => k8 (by rw [k4] at hx; cases hx; exact hc))
                  · exact j5.put (ops := ops) j2 (fun x hx => (hkstep j oj hj j1 e j2 j6 x hx).1)
                · intro p hp
                  rcases List.mem_cons.1 hp with rfl | hp
                  · refine ⟨hkA, ok, hdrOf, obj, k1, k4, ?_, ?_, alloc_heap w obj, .inl (Nat.le_trans hB.size hw1), hwa.lt⟩
                    · exact k5.put (ops := ops) k2 (fun x hx hc => k8 (by rw [k4] at hx; cases hx; exact hc))
                    · rw [k4]
                      have : d < a.tmps.size := by rw [R.size]; rw [k4] at hdok; exact hdok
                      simp [Act.put, this]
                  · obtain ⟨p1, op, hp', objp, p2, p3, p4, p5, p6, p7, p8⟩ := hP p hp
                    obtain ⟨oj, dj, _, _, j1, j2, j3, j4, j5, j6, j7⟩ := hA p.j p1
                    obtain rfl := Option.some.inj (p2.symm.trans j1)
                    refine ⟨p1, op, hp', objp, p2, p3, p4.put (ops := ops) j2 (fun x hx => (hkstep p.j op p1 p2 (hapart p hp) j2 j6 x hx).1), ?_, ?_, p7, Nat.lt_of_lt_of_le p8 hsz3⟩
                    · rw [tmps_put a ok.dst _ (fun x hx e => by subst e; exact (hkstep p.j op p1 p2 (hapart p hp) j2 j6 _ hx).2 p3)]
                      exact p5
                    · rw [hbl p.g (Nat.lt_of_lt_of_le p8 hw1)]; exact p6
                · exact List.nodup_cons.2 ⟨hku2, hnj⟩
                · exact List.nodup_cons.2 ⟨hgnew, hng⟩
                · rw [opsD_eq, hi, ho]
                  exact hE
      · -- announced
        have hi' : isX i = false := by simpa using hi
        have h : onOp (ops[i - 1000]?) fun o => onSome o.dst fun d => ask (opE P H (some d) o.op s (fun _ => True)) (opsD P H ops (d :: annD) π (s.anys [d]) K) := by
          rw [opsD_eq, hi'] at h; exact h
        rw [drawOkD, if_neg hi] at hd
        simp only [Bool.and_eq_true] at hd
        obtain ⟨⟨hrd, hcase⟩, hrest⟩ := hd
        have hrd : i - 1000 ∈ Region.ready .any ops listed := by simpa using hrd
        cases ho : ops[i - 1000]? with
        | none => rw [ho] at hcase; cases hcase
        | some o =>
          rw [ho] at hcase h
          simp only [Bool.and_eq_true, Option.isNone_iff_eq_none, Bool.not_eq_true'] at hcase
          obtain ⟨⟨⟨⟨c1, c2⟩, c3⟩, c4⟩, c5⟩ := hcase
          obtain ⟨d, hd', h1, h2⟩ := onSome.elim (show onSome o.dst _ from h)
          rw [hd'] at c3
          have c3 : (!(o.looksAt ops).contains d) = true := c3
          have c3 : d ∉ o.looksAt ops := fun hc => by rw [show (o.looksAt ops).contains d = true from List.contains_iff_mem.2 hc] at c3; cases c3
          have hmem : o ∈ ops.toList := by
            have := Array.mem_of_getElem? ho
            simpa using this
          obtain ⟨L, m', R⟩ := hR
          rw [← hd'] at h1
          obtain ⟨hdrOf, obj, hlays, _⟩ := pend_ns c1 (hdst o hmem) R h1
          refine ih π ((i - 1000) :: ann) (d :: annD) listed l' X (s.anys [d]) a w w1 m (by omega) hm hrest hcl hsz hsz' hl (fun j hj => ?_) (fun d' hd'' => ?_) (fun p hp => ?_) hnj hng hB ⟨L, m', R.anys _⟩ h2
          · rcases List.mem_cons.1 hj with he | hj
            · rw [he]
              exact ⟨o, d, hdrOf, obj, ho, c1, c2, hd', hlays, c5, List.mem_cons_self, c3⟩
            · obtain ⟨oj, dj, hj', objj, j1, j2, j3, j4, j5, j6, j7⟩ := hA j hj
              exact ⟨oj, dj, hj', objj, j1, j2, j3, j4, j5, j6, List.mem_cons_of_mem _ j7.1, j7.2⟩
          · rcases List.mem_cons.1 hd'' with rfl | hd''
            · exact anys_get s [d'] d' (by simp)
            · show upd s.env d .any d' = .any
              unfold upd
              cases (d' == d) with
              | true => rfl
              | false => exact hany d' hd''
          · obtain ⟨p1, rest⟩ := hP p hp
            exact ⟨List.mem_cons_of_mem _ p1, rest⟩
def exOf : Ex → Exit
  | .normal => .normal
  | .exit i => .exit i
  | .ret => .ret
theorem region_any {ops : Array Oper} {j : Nat} {π : List Nat} {s : St} {a : Act} {w : World} {L : Nat → Option Id} {m : Id → Value} {Qa : Ex → St → Prop} {Q : Exit → Act → World → Prop} (hd' : ∀ o ∈ ops.toList, dOk n o.dst) (hdraw : wfDraw ops (j :: π) = true) (R : RelC W0 S F n L m s a w) (h : regE P H ops (j :: π) s (Qa .normal)) (hQ : ∀ s a w, Rel W0 S F n s a w → Qa .normal s → Q .normal a w) :
    wpAny P .any ops (fun e a w => match e with | .panic _ => False | e => Q e a w) ops.size (Array.replicate ops.size false) a { w with drawn := w.drawn + 1 } := by
  have h : sel (j == 996) (opsT P H ops π π s (Qa .normal)) (sel (j == 997) (opsC P (hBl H) ops π s (Qa .normal)) (sel (j == 998) (opsM P H ops π s (Qa .normal)) (sel (j == 999) (opsD P (hBl H) ops [] π s (Qa .normal)) (opsE P (hBl H) (stripL ops (opsAt ops (j :: π))) s (Qa .normal))))) := h
  simp only [wfDraw] at hdraw
  cases hj6 : (j == 996) with
  | true =>
    rw [hj6] at h hdraw
    have h : opsT P H ops π π s (Qa .normal) := h
    simp only [if_true, Bool.and_eq_true] at hdraw
    refine wpAny_of_L (T := stepTM ops π) _ _ _ _ ?_
    exact (tree_sound (P := P) (H := H) (Q := fun e a w => match e with | .panic _ => False | e => Q e a w) hdraw.1 (fun _ _ _ h => h) hd' (fun s a w hR hK => hQ s a w hR hK) π π ops.size (by unfold left; simp) (fun j oj _ hl => by rw [getD_replicate_false] at hl; cases hl) ⟨L, m, R.drew⟩ h).1 hdraw.2
  | false =>
  rw [hj6] at h hdraw
  simp only [Bool.false_eq_true, if_false] at hdraw
  have h : sel (j == 997) (opsC P (hBl H) ops π s (Qa .normal)) (sel (j == 998) (opsM P H ops π s (Qa .normal)) (sel (j == 999) (opsD P (hBl H) ops [] π s (Qa .normal)) (opsE P (hBl H) (stripL ops (opsAt ops (j :: π))) s (Qa .normal)))) := h
  cases hj7 : (j == 997) with
  | true =>
    rw [hj7] at h hdraw
    have h : opsC P (hBl H) ops π s (Qa .normal) := h
    simp only [if_true, Bool.and_eq_true] at hdraw
    obtain ⟨h1, h2⟩ := hdraw
    refine wpAny_of_L (T := stepT ops) _ _ _ _ ?_
    match π, h, h2 with
    | x :: p :: q :: π, h, h2 =>
      simp only [wfC, Bool.and_eq_true, beq_iff_eq] at h2
      obtain ⟨⟨h3, h4⟩, h5⟩ := h2
      have e1 : (π.take p).length + ((((π.drop p).take q) ++ ((π.drop p).drop q)).length + 1) = ops.size := by
        rw [List.take_append_drop, ← Nat.add_assoc, ← List.length_append, List.take_append_drop]; exact h3
      have key2 := draw_soundG (P := P) (H := hBl H) (Q := fun e a w => match e with | .panic _ => False | e => Q e a w) rfl h1 (fun _ _ _ h => h) (π.take p) h4 (fun j oj _ hl => by
        rw [getD_replicate_false] at hl; cases hl) hd' ⟨L, m, R.drew⟩ h fun s a w hcl hR hk =>
        comb_sound (P := P) (H := hBl H) (Q := fun e a w => match e with | .panic _ => False | e => Q e a w) rfl h1 (fun _ _ _ h => h) hd' (fun s a w hR hK => hQ s a w hR hK) _ _ h5 hcl hR hk
      rwa [e1] at key2
    | [], h, _ => exact h.elim
    | [_], h, _ => exact h.elim
    | [_, _], h, _ => exact h.elim
  | false =>
  rw [hj7] at h hdraw
  have h : sel (j == 998) (opsM P H ops π s (Qa .normal)) (sel (j == 999) (opsD P (hBl H) ops [] π s (Qa .normal)) (opsE P (hBl H) (stripL ops (opsAt ops (j :: π))) s (Qa .normal))) := h
  simp only [Bool.false_eq_true, if_false] at hdraw
  cases hj8 : (j == 998) with
  | true =>
    rw [hj8] at h hdraw
    have h : opsM P H ops π s (Qa .normal) := h
    simp only [if_true, Bool.and_eq_true, beq_iff_eq] at hdraw
    obtain ⟨⟨⟨h1, h2⟩, h3⟩, h4⟩ := hdraw
    refine wpAny_of_L (T := stepTM ops π) _ _ _ _ ?_
    have := drawM_sound (P := P) (H := H) (Q := fun e a w => match e with | .panic _ => False | e => Q e a w) h1 h2 (fun _ _ _ h => h) π (listed := Array.replicate ops.size false) (fun _ h => h) h4 (fun j oj _ hl => by
      rw [getD_replicate_false] at hl; cases hl) hd' ⟨L, m, R.drew⟩ h (fun s a w hR hK => hQ s a w hR hK)
    rwa [h3] at this
  | false =>
  rw [hj8] at h hdraw
  have h : sel (j == 999) (opsD P (hBl H) ops [] π s (Qa .normal)) (opsE P (hBl H) (stripL ops (opsAt ops (j :: π))) s (Qa .normal)) := h
  simp only [Bool.false_eq_true, if_false, Bool.and_eq_true] at hdraw
  obtain ⟨⟨h1, h2⟩, h34⟩ := hdraw
  refine wpAny_of_L (T := stepT ops) _ _ _ _ ?_
  cases hj9 : (j == 999) with
  | true =>
    rw [hj9] at h h34
    have h4 : drawOkD ops π (Array.replicate ops.size false) [] = true := h34
    refine drawD_sound (P := P) (H := hBl H) (Q := fun e a w => match e with | .panic _ => False | e => Q e a w) rfl h1 h2 (fun _ _ _ h => h) R.old hd' (fun s a w hR hK => hQ s a w hR hK) (π.length + ops.size) π [] [] (Array.replicate ops.size false) (Array.replicate ops.size false) [] s a { w with drawn := w.drawn + 1 } { w with drawn := w.drawn + 1 } ops.size (Nat.le_refl _) (by
      unfold left
      simp) h4 (fun j oj _ hl => by rw [getD_replicate_false] at hl; cases hl) (by simp) (by simp) (fun k _ => by simp) (fun j hj => by cases hj) (fun d hd => by cases hd) (fun p hp => by cases hp) List.nodup_nil List.nodup_nil R.drew.below ⟨L, m, rebase0 R.drew⟩ h
  | false =>
    rw [hj9] at h h34
    have h34 : ((j :: π).length == ops.size && drawOk ops (j :: π) (Array.replicate ops.size false)) = true := h34
    simp only [Bool.and_eq_true, beq_iff_eq] at h34
    obtain ⟨h3, h4⟩ := h34
    have h : opsE P (hBl H) (stripL ops (opsAt ops (j :: π))) s (Qa .normal) := h
    have := draw_sound (P := P) (H := hBl H) (Q := fun e a w => match e with | .panic _ => False | e => Q e a w) rfl h1 h2 (fun _ _ _ h => h) (j :: π) (listed := Array.replicate ops.size false) h4 (fun j oj _ hl => by
    rw [getD_replicate_false] at hl; cases hl) hd' ⟨L, m, R.drew⟩ h (fun s a w hR hK => hQ s a w hR hK)
    rwa [h3] at this
theorem awp_sound {O : Nat → List Nat} (hm : P.follows .mixedOrders = true) : ∀ (c : Code) {s : St} {a : Act} {w : World} {Qa : Ex → St → Prop} {Q : Exit → Act → World → Prop}, wfCode O n c = true → Rel W0 S F n s a w → awp P H O c s Qa → (∀ e s a w, Rel W0 S F n s a w → Qa e s → Q (exOf e) a w) → c.wp P Q a w
  | .skip, s, a, w, Qa, Q, hw, hR, h, hQ => wp_skip (hQ .normal s a w hR h)
  | .exit i, s, a, w, Qa, Q, hw, hR, h, hQ => wp_exit (hQ (.exit i) s a w hR h)
  | .ret, s, a, w, Qa, Q, hw, hR, h, hQ => wp_ret (hQ .ret s a w hR h)
  | .seq x y, s, a, w, Qa, Q, hw, hR, h, hQ => by
    simp only [wfCode, Bool.and_eq_true] at hw
    refine wp_seq (awp_sound hm x hw.1 hR h fun e s a w hR he => ?_)
    cases e with
    | normal => exact awp_sound hm y hw.2 hR he hQ
    | exit i => exact hQ (.exit i) s a w hR he
    | ret => exact hQ .ret s a w hR he
  | .cond c x y, s, a, w, Qa, Q, hw, hR, h, hQ => by
    simp only [wfCode, Bool.and_eq_true] at hw
    obtain ⟨L, m, R⟩ := hR
    obtain ⟨t, ht, h1⟩ := onBool.elim (show onBool _ _ from h)
    have hc := R.ev c
    rw [ht] at hc
    exact wp_cond_split hc.1 (fun ht => awp_sound hm x hw.1 ⟨L, m, R⟩ (h1.1 ht) hQ) (fun ht => awp_sound hm y hw.2 ⟨L, m, R⟩ (h1.2 ht) hQ)
  | .block i c, s, a, w, Qa, Q, hw, hR, h, hQ => by
    refine wp_block (awp_sound hm c hw hR h fun e s a w hR he => ?_)
    cases e with
    | normal => exact hQ .normal s a w hR he
    | ret => exact hQ .ret s a w hR he
    | exit j =>
      show if j = i then Q .normal a w else Q (.exit j) a w
      have he : sel (j == i) (Qa .normal s) (Qa (.exit j) s) := he
      by_cases e : j = i
      · subst e
        rw [if_pos rfl]
        rw [show (j == j) = true by simp] at he
        exact hQ .normal s a w hR he
      · rw [if_neg e]
        rw [show (j == i) = false by simpa using e] at he
        exact hQ (.exit j) s a w hR he
  | .loop c, s, a, w, Qa, Q, hw, hR, h, hQ => by
    obtain ⟨I, k, ⟨s0, hw0, hI⟩, hround⟩ := h
    refine wp_loop_ghost (fun k a w => ∃ s, Rel W0 S F n s a w ∧ I k s) k ⟨s0, hw0.rel hR, hI⟩ fun k a w ⟨s, hR, hI⟩ => ?_
    refine awp_sound hm c (by simpa [wfCode] using hw) hR (hround k s hI) fun e s a w hR he => ?_
    cases e with
    | normal => obtain ⟨k', h1, s2, hw2, h2⟩ := he; exact ⟨k', h1, s2, hw2.rel hR, h2⟩
    | exit i => exact hQ (.exit i) s a w hR he
    | ret => exact hQ .ret s a w hR he
  | .region i ops draw, s, a, w, Qa, Q, hw, hR, h, hQ => by
    simp only [wfCode, Bool.and_eq_true, Bool.or_eq_true, Bool.not_eq_true'] at hw
    obtain ⟨hd, hdraw⟩ := hw
    have hd' : ∀ o ∈ ops.toList, dOk n o.dst := fun o ho => by
      have := (Array.all_eq_true'.1 hd) o (by simpa using ho)
      unfold dOk
      split at this <;> simp_all
    cases draw with
    | false => exact wp_region_list (ops_sound ops.toList hd' hR h fun s a w => hQ .normal s a w)
    | true =>
      have h : regE P H ops (O i) s (Qa .normal) := h
      have hdraw := hdraw.resolve_left (by simp)
      obtain ⟨L, m, R⟩ := hR
      cases hO : O i with
      | nil =>
        rw [hO] at h hdraw
        have h : opsE P H (stripL ops ops.toList) s (Qa .normal) := h
        simp only [wfDraw, Bool.or_eq_true, Bool.and_eq_true] at hdraw
        rcases hdraw with hdraw | hdraw
        · refine wp_region_still hm hdraw.1 (still_sound ops.toList (fun o ho => ⟨hd' o ho, (Array.all_eq_true'.1 hdraw.2) o (by simpa using ho)⟩) ⟨L, m, R.drew⟩ h fun s a hR hK => hQ .normal s a _ hR hK)
        · have e : ops = ops.toList.toArray := by simp
          have key : (Code.region i ops.toList.toArray true).wp P Q a w := by
            refine wp_region_still_tail (quietN ops quietOp) hm (by rw [← e]; exact hdraw) ?_
            rw [← e]
            have h2 : opsE P H (stripL ops (ops.toList.take (quietN ops quietOp) ++ ops.toList.drop (quietN ops quietOp))) s (Qa .normal) := by rw [List.take_append_drop]; exact h
            have h3 := (congrFun (opsE_append (P := P) (H := H) (ops := ops) (ops.toList.take (quietN ops quietOp)) (ops.toList.drop (quietN ops quietOp)) (Qa .normal)) s).mp h2
            exact still_sound _ (fun o ho => ⟨hd' o (List.mem_of_mem_take ho), take_quiet ops.toList o ho⟩) ⟨L, m, R.drew⟩ h3 fun s a hR hK => ops_sound _ (fun o ho => hd' o (List.mem_of_mem_drop ho)) hR hK fun s a w => hQ .normal s a w
          rwa [← e] at key
      | cons j π =>
        rw [hO] at h hdraw
        have key : (Code.region i ops true).wp P (fun e a w => match e with | .panic _ => False | e => Q e a w) a w := wp_region_any hm (region_any hd' hdraw R h fun s a w hR hK => hQ .normal s a w hR hK)
        refine wp_mono key fun e a w he => ?_
        cases e with
        | panic c => exact False.elim he
        | _ => exact he
  | .goto _, _, _, _, _, _, _, _, h, _ => False.elim h
  | .label l, s, a, w, Qa, Q, hw, hR, h, hQ => wp_label (hQ .normal s a w hR h)
  | .scope c, s, a, w, Qa, Q, hw, hR, h, hQ => by
    refine wp_scope_straight (awp_sound hm c (by simpa [wfCode] using hw) hR h fun e s a w hR he => ?_)
    cases e with
    | normal => exact hQ .normal s a w hR he
    | exit i => exact hQ (.exit i) s a w hR he
    | ret => exact hQ .ret s a w hR he
  | .refuse _, _, _, _, _, _, _, _, h, _ => False.elim h
end
end Go.Ev
set_option linter.unusedVariables false
set_option linter.unusedSimpArgs false
namespace Go.Ev
open Go Go.RowKit
section
variable {P : Program} {H : Nat → Nat} {W0 : Bs} {S F : Nat → Prop} {n : Nat} {L : Nat → Option Id} {m : Id → Value} {s : St} {a : Act} {w : World} {K : St → Prop}
theorem ret_vals (R : RelC W0 S F n L m s a w) (f : ResultVar → Sem Value) (hf : ∀ u, f (.tmp u) = pure (a.tmps.getD u undef)) (hc : ∀ x t, f (.cell x t) = (do loadVar t (← asAddr (a.tmps.getD x undef)))) : ∀ {rs : List ResultVar} {l : List AV}, retA P s rs = some l →
    ∃ vs, (rs.mapM f).run P w = .ok vs w ∧ vs.length = rs.length ∧ ∀ q, RepVs (cx w S F L m s.σ) false (.read .ent) q l vs
  | [], l, h => by obtain rfl := Option.some.inj h; exact ⟨[], by simp, rfl, fun _ => rfl⟩
  | .tmp t :: rs, l, h => by
    obtain ⟨l', hl, h⟩ := bindO_eq (show bindO _ _ = _ from h)
    obtain rfl := Option.some.inj h
    obtain ⟨vs, h1, h2, h3⟩ := ret_vals R f hf hc hl
    exact ⟨a.tmps.getD t undef :: vs, by simp [List.mapM_cons, hf, h1], by simp [h2], fun q => ⟨_, _, rfl, R.env t, h3 _⟩⟩
  | .cell x T :: rs, l, h => by
    obtain ⟨⟨k, g⟩, ht, h⟩ := bindO_eq (show bindO _ _ = _ from h)
    obtain ⟨⟨cs, j⟩, hp, h⟩ := bindO_eq h
    obtain ⟨y, hy, h⟩ := bindO_eq h
    obtain ⟨l', hl, h⟩ := bindO_eq h
    obtain rfl := Option.some.inj h
    obtain ⟨vs, h1, h2, h3⟩ := ret_vals R f hf hc hl
    have hx := R.env x
    have key : ∃ v, (loadVar T (match a.tmps.getD x undef with | .pointer (some b) => b | _ => default)).run P w = .ok v w ∧ (asAddr (a.tmps.getD x undef)).run P w = .ok (match a.tmps.getD x undef with | .pointer (some b) => b | _ => default) w ∧ Rep (cx w S F L m s.σ) false (.read .ent) y v := by
      generalize s.env x = av at hp hx
      unfold ptrBox at hp
      split at hp
      · rename_i id sz k'
        obtain ⟨cs', hb, hp⟩ := bindO_eq hp
        simp only [Option.some.injEq, Prod.mk.injEq] at hp
        obtain ⟨rfl, rfl⟩ := hp
        unfold boxOf at hb
        split at hb
        · rename_i t' cs'' hob
          obtain rfl := Option.some.inj hb
          obtain ⟨_, _, g', off', hg', he⟩ := hx
          obtain ⟨g0, arr, hm, hL, hh, harr, hC⟩ := R.obj id _ hob
          rw [hm] at hg'
          simp only [hdrAddr, Option.some.injEq, Addr.mk.injEq] at hg'
          obtain ⟨rfl, rfl, _⟩ := hg'
          simp only [Nat.zero_mul, Nat.add_zero] at he
          obtain ⟨v, hrun, hrep⟩ := run_load_cut (P := P) ht hC (cl' := false) hy (fun _ c y _ h2 => h2) (fun _ q c y h2 => h2)
          refine ⟨v, ?_, ?_, hrep⟩
          · rw [he]
            have hrun' : (Instr.loadAt T (.pointer (some ⟨g0, 0 + k', none⟩))).run P w = .ok v w := hrun w (Grows.refl w)
            simpa [Instr.loadAt, Instr.sureAddr] using hrun'
          · rw [he]; rfl
        · cases hb
      · cases hp
    obtain ⟨v, h4, h5, h6⟩ := key
    refine ⟨v :: vs, ?_, by simp [h2], fun q => ⟨_, _, rfl, h6, h3 _⟩⟩
    rw [List.mapM_cons, hc]
    simp only [Sem.run_bind, h5, Result.andThen_ok, h4, h1]
    rfl
def mvA (s : St) (t : Id) : AV → List (Id × Id)
  | .agg cs => mvCs t 0 cs
  | .ptr id _ 0 0 => (match s.σ id with | some (.box _ cs) => (id, t ++ [0]) :: mvCs (t ++ [1]) 0 cs | _ => [])
  | c => mvC t c
def mvAs (s : St) (p : Id) : Nat → List AV → List (Id × Id)
  | _, [] => []
  | q, c :: cs => mvA s (p ++ [q]) c ++ mvAs s p (q + 1) cs
theorem boxTC_eq {o : Option OB} {b : Nat × List AV} (h : boxTC o = some b) : o = some (.box b.1 b.2) := by
  unfold boxTC at h
  split at h
  · obtain rfl := Option.some.inj h; rfl
  · cases h
theorem clA_ptr {id : Id} {sz i k : Nat} {v : AV} {I : List Id} (h : s.clA (.ptr id sz i k) = some (v, I)) : i = 0 ∧ k = 0 ∧ ∃ tt cs x, s.σ id = some (.box tt cs) ∧ s.clL cs = some x ∧ v = .bx tt x.1 ∧ I = id :: x.2 := by
  unfold St.clA at h
  split at h
  · rename_i e; cases e
  · rename_i e
    injection e with e1 e2 e3 e4
    subst e1; subst e3; subst e4
    obtain ⟨b, hb, h⟩ := bindO_eq h
    obtain ⟨x, hx, h⟩ := bindO_eq h
    simp only [Option.some.injEq, Prod.mk.injEq] at h
    exact ⟨rfl, rfl, b.1, b.2, x, boxTC_eq hb, hx, h.1.symm, h.2.symm⟩
  · cases h
theorem clA_mv {c v : AV} {I : List Id} (h : s.clA c = some (v, I)) (t : Id) : (mvA s t c).map (·.1) = I := by
  cases c with
  | agg cs =>
    obtain ⟨x, hx, h⟩ := bindO_eq (show bindO _ _ = _ from h)
    simp only [Option.some.injEq, Prod.mk.injEq] at h
    rw [← h.2]
    exact clL_mv (show s.clL cs = some (x.1, x.2) from hx) t 0
  | ptr id sz i k =>
    obtain ⟨rfl, rfl, tt, cs, x, h1, h2, rfl, rfl⟩ := clA_ptr h
    have := clL_mv (show s.clL cs = some (x.1, x.2) from h2) (t ++ [1]) 0
    simp [mvA, h1, this]
  | _ => simp only [St.clA] at h; exact clC_mv h t
theorem clAs_mv : ∀ {cs vs : List AV} {I : List Id}, s.clAs cs = some (vs, I) → ∀ (p : Id) (q : Nat), (mvAs s p q cs).map (·.1) = I
  | [], vs, I, h, p, q => by simp [St.clAs] at h; simp [mvAs, h.2]
  | c :: cs, vs, I, h, p, q => by
    simp only [St.clAs] at h
    obtain ⟨x, hx, h⟩ := bindO_eq h
    obtain ⟨y, hy, h⟩ := bindO_eq h
    simp only [Option.some.injEq, Prod.mk.injEq] at h
    rw [mvAs, List.map_append, clA_mv (show s.clA c = some (x.1, x.2) from hx), clAs_mv (show s.clAs cs = some (y.1, y.2) from hy)]
    exact h.2
theorem clA_sound (R : RelC W0 S F n L m s a w) {C' : Cx} (hs : Stays (cx w S F L m s.σ) C') {c v : AV} {I : List Id} (h : s.clA c = some (v, I)) {y : Value} (hr : Rep (cx w S F L m s.σ) false (.read .ent) c y) {t : Id}
    (htr : ∀ x ∈ mvA s t c, Tr (cx w S F L m s.σ) C' (.own x.1) (.own x.2)) (ts : List (Option (Nat × Nat))) : Rep C' true (.own t) (nilA ts v) y := by
  cases c with
  | agg cs =>
    obtain ⟨x, hx, h⟩ := bindO_eq (show bindO _ _ = _ from h)
    simp only [Option.some.injEq, Prod.mk.injEq] at h
    rw [← h.1]
    obtain ⟨vs, rfl, hr⟩ := hr
    obtain ⟨g1, g2, g3, g4⟩ := clL_sound (p := t) R hs (show s.clL cs = some (x.1, x.2) from hx) (q := 0) hr htr
    refine ⟨vs, rfl, RepVs.of (by rw [nilL_length, g1]; simpa using g2) fun j c' hj => ?_⟩
    obtain ⟨ty, u, h3, rfl⟩ := nilL_at hj
    obtain ⟨y, h4, h5⟩ := g4 j u h3
    exact ⟨y, h4, rep_nilC h5 ty⟩
  | ptr id sz i k =>
    obtain ⟨rfl, rfl, tt, cs, x, hob, hcl, rfl, rfl⟩ := clA_ptr h
    simp only [mvA, hob] at htr
    obtain ⟨g, arr, h1, h2, h3, h4, h5⟩ := R.obj id _ hob
    obtain ⟨_, _, g', off, h6, rfl⟩ := hr
    rw [h1] at h6
    simp only [hdrAddr, Option.some.injEq, Addr.mk.injEq] at h6
    obtain ⟨rfl, rfl, _⟩ := h6
    have ht := (htr (id, t ++ [0]) (by simp)) g [] (by simpa using h2)
    have hcell : ∀ o, C'.w.cell? ⟨g, o, none⟩ = w.cell? ⟨g, o, none⟩ := fun o => cell_same ht.2 o
    obtain ⟨vs, g1, g2⟩ := h5.cells
    have hreps : RepVs (cx w S F L m s.σ) false (.read .ent) 0 cs vs := RepVs.of g1 fun j c hc => by
      obtain ⟨y, k1, _, k3⟩ := h5.at_ hc
      have hj : j < vs.length := by rw [g1]; exact (List.getElem?_eq_some_iff.1 hc).1
      have h7 : vs[j]? = some vs[j] := List.getElem?_eq_getElem hj
      have h8 := (g2 j _ h7).1
      rw [k1] at h8
      exact ⟨y, by rw [h7, h8], k3⟩
    obtain ⟨k1, k2, k3, k4⟩ := clL_sound (p := t ++ [1]) R hs (show s.clL cs = some (x.1, x.2) from hcl) (q := 0) hreps (fun x hx => htr x (by simp [hx]))
    have fin : Rep C' true (.own t) (.bx tt x.1) (.pointer (some ⟨g, 0 + 0 * sz + 0, none⟩)) := by
      refine ⟨g, arr, by simp, by simpa using ht.1, ht.2.trans h3, by rw [k1]; exact h4, RepCs.of fun j c hc => ?_⟩
      obtain ⟨y, h8, h9⟩ := k4 j c hc
      exact ⟨y, (hcell _).trans (g2 j y h8).1, k3 y (List.mem_of_getElem? h8), h9⟩
    exact rep_nilC fin _
  | _ =>
    simp only [St.clA] at h
    obtain ⟨g1, g2⟩ := clC_sound R hs h hr htr
    cases v with
    | agg cs => obtain ⟨vs, rfl, _⟩ := g1; exact g2.elim
    | any => trivial
    | tup cs => exact g1
    | _ => exact rep_nilC g1 _
theorem clAs_sound (R : RelC W0 S F n L m s a w) {C' : Cx} (hs : Stays (cx w S F L m s.σ) C') {p : Id} : ∀ {cs vs : List AV} {I : List Id}, s.clAs cs = some (vs, I) → ∀ {ys : List Value} {q q' : Nat} {ts : List TypeId}, RepVs (cx w S F L m s.σ) false (.read .ent) q' cs ys →
    (∀ x ∈ mvAs s p q cs, Tr (cx w S F L m s.σ) C' (.own x.1) (.own x.2)) → RepVs C' true (.own p) q (nilAs P ts vs) ys
  | [], vs, I, h, ys, q, q', ts, hr, _ => by
    simp [St.clAs] at h
    rw [h.1]
    cases ts <;> exact hr
  | c :: cs, vs, I, h, ys, q, q', ts, hr, ht => by
    simp only [St.clAs] at h
    obtain ⟨x, hx, h⟩ := bindO_eq h
    obtain ⟨z, hz, h⟩ := bindO_eq h
    simp only [Option.some.injEq, Prod.mk.injEq] at h
    obtain ⟨y, ys, rfl, hr1, hr2⟩ := hr
    rw [← h.1]
    cases ts with
    | nil =>
      refine ⟨y, ys, rfl, ?_, ?_⟩
      · have := clA_sound R hs (show s.clA c = some (x.1, x.2) from hx) hr1 (t := p ++ [q]) (fun z hz => ht z (by simp [mvAs, hz])) []
        cases hx1 : x.1 <;> rw [hx1] at this <;> first | exact this | (simpa [nilA, nilL, nilC] using this)
      · have := clAs_sound (p := p) R hs (show s.clAs cs = some (z.1, z.2) from hz) (q := q + 1) (ts := []) hr2 (fun z hz => ht z (by simp [mvAs, hz]))
        cases hz1 : z.1 <;> rw [hz1] at this <;> exact this
    | cons t ts =>
      exact ⟨y, ys, rfl, clA_sound R hs (show s.clA c = some (x.1, x.2) from hx) hr1 (t := p ++ [q]) (fun z hz => ht z (by simp [mvAs, hz])) _,
        clAs_sound (p := p) R hs (show s.clAs cs = some (z.1, z.2) from hz) (q := q + 1) (ts := ts) hr2 (fun z hz => ht z (by simp [mvAs, hz]))⟩
theorem asrdA_rep {C : Cx} {c : AV} {y : Value} (h : Rep C true (.read .ent) c y) : Rep C false (.read .ent) (asrdA c) y := rep_asrd h
theorem wf_mono {O : Nat → List Nat} {k n : Nat} (hk : k ≤ n) : ∀ {c : Code}, wfCode O k c = true → wfCode O n c = true
  | .region i ops d, h => by
    simp only [wfCode, Bool.and_eq_true] at h ⊢
    refine ⟨?_, h.2⟩
    unfold wfOps at *
    rw [Array.all_eq_true'] at *
    intro o ho
    have := h.1 o ho
    cases hd : o.dst with
    | none => rfl
    | some d =>
      rw [hd] at this
      have h1 : d < k := by simpa using this
      show decide (d < n) = true
      simpa using Nat.lt_of_lt_of_le h1 hk
  | .seq a b, h => by simp only [wfCode, Bool.and_eq_true] at h ⊢; exact ⟨wf_mono hk h.1, wf_mono hk h.2⟩
  | .cond _ a b, h => by simp only [wfCode, Bool.and_eq_true] at h ⊢; exact ⟨wf_mono hk h.1, wf_mono hk h.2⟩
  | .block _ c, h => by simp only [wfCode] at h ⊢; exact wf_mono hk h
  | .loop c, h => by simp only [wfCode] at h ⊢; exact wf_mono hk h
  | .scope c, h => by simp only [wfCode] at h ⊢; exact wf_mono hk h
  | .label _, _ => rfl
  | .skip, _ => rfl
  | .exit _, _ => rfl
  | .ret, _ => rfl
end
theorem ret_fin {P : Program} {B : Bs} {S F : Nat → Prop} {n : Nat} {L : Nat → Option Id} {m : Id → Value} {s : St} {a : Act} {w' : World} {fn : Func} {rs : List ResultVar} {ts : List TypeId} {post : AV → Prop} (R : RelC B S F n L m s a w') (hr : fn.results.toList = rs) (he : retE P rs ts s post) (base : Id) :
    ∃ v, (results fn a.tmps).run P w' = .ok v w' ∧ ∃ r L', post r ∧ Rep ⟨w', S, F, L', fun _ => undef, fun _ => False⟩ true (.own base) r v ∧ ∀ b p, L' b = some p → (L b).isSome = true := by
  obtain ⟨l, hl, h1⟩ := onSome.elim he
  obtain ⟨⟨vs', I⟩, hcl, hind, hpost⟩ := onSome.elim h1
  obtain ⟨vs, hrun, hvl, hreps'⟩ := ret_vals R (fun | .tmp t => Pure.pure (a.tmps.getD t undef) | .cell x t => do loadVar t (← asAddr (a.tmps.getD x undef))) (fun _ => rfl) (fun _ _ => rfl) hl
  have hres : (results fn a.tmps).run P w' = .ok (if h : vs.toArray.size = 1 then vs.toArray[0] else .tuple vs.toArray) w' := by
    unfold results
    rw [show fn.results = rs.toArray by rw [← hr], List.mapM_toArray]
    simp only [Sem.run_bind, Sem.run_map]
    erw [hrun]
    rfl
  have labs : ∀ (ρ : Id → Id) b p, (L b).map ρ = some p → (L b).isSome = true := fun ρ b p hb => by
    obtain ⟨p', hp', _⟩ := Option.map_eq_some_iff.1 hb
    rw [hp']; rfl
  have htr : ∀ (mv : List (Id × Id)), indep (mv.map (·.1)) = true → ∀ x ∈ mv, Tr (cx w' S F L m s.σ) ⟨w', S, F, fun b => (L b).map (mvL mv), fun _ => undef, fun _ => False⟩ (.own x.1) (.own x.2) := fun mv hi x hx b q hb => ⟨by
    have hb' : L b = some (x.1 ++ q) := hb
    show (L b).map (mvL mv) = some (x.2 ++ q)
    rw [hb', Option.map_some, mvL_in hi hx], rfl⟩
  refine ⟨_, hres, ?_⟩
  match l, vs, hreps' 0, hcl with
  | [c], [v], hrep, hcl =>
    simp only [St.clAs] at hcl
    obtain ⟨x, hx, h⟩ := bindO_eq hcl
    obtain ⟨y, hy, h⟩ := bindO_eq h
    obtain rfl := Option.some.inj hy
    simp only [Option.some.injEq, Prod.mk.injEq, List.append_nil] at h
    obtain ⟨rfl, rfl⟩ := h
    have hmv := clA_mv (show s.clA c = some (x.1, x.2) from hx) base
    refine ⟨_, fun b => (L b).map (mvL (mvA s base c)), hpost, ?_, labs _⟩
    obtain ⟨y, ys, hyy, hr1, _⟩ := hrep
    obtain ⟨rfl, rfl⟩ : v = y ∧ [] = ys := by simpa using hyy
    have := fun t => clA_sound R (C' := ⟨w', S, F, fun b => (L b).map (mvL (mvA s base c)), fun _ => undef, fun _ => False⟩) ⟨fun b h => ⟨h, rfl⟩, fun b h => ⟨h, rfl⟩⟩ (show s.clA c = some (x.1, x.2) from hx) hr1 (t := base) (htr _ (by rw [hmv]; exact hind)) t
    cases ts with
    | nil =>
      show Rep _ true (.own base) x.1 v
      have := this []
      cases hx1 : x.1 <;> rw [hx1] at this <;> first | exact this | (simpa [nilA, nilL, nilC] using this)
    | cons t ts =>
      have e : nilAs P ts ([] : List AV) = [] := by cases ts <;> rfl
      show Rep _ true (.own base) (tupOf (nilA (cty P t) x.1 :: nilAs P ts [])) v
      rw [e]
      exact this _
  | [], vs, hrep, hcl =>
    have hvs : vs = [] := hrep
    subst hvs
    obtain ⟨rfl, rfl⟩ : [] = vs' ∧ [] = I := by simpa [St.clAs] using hcl
    refine ⟨_, fun b => (L b).map (mvL []), hpost, ?_, labs _⟩
    have e : nilAs P ts ([] : List AV) = [] := by cases ts <;> rfl
    rw [e]
    exact ⟨#[], rfl, rfl⟩
  | c :: c2 :: l, vs, hrep, hcl =>
    have hmv := clAs_mv hcl base 0
    refine ⟨_, fun b => (L b).map (mvL (mvAs s base 0 (c :: c2 :: l))), hpost, ?_, labs _⟩
    have hs := clAs_sound (P := P) (p := base) R (C' := ⟨w', S, F, fun b => (L b).map (mvL (mvAs s base 0 (c :: c2 :: l))), fun _ => undef, fun _ => False⟩) ⟨fun b h => ⟨h, rfl⟩, fun b h => ⟨h, rfl⟩⟩ hcl (q := 0) (ts := ts) hrep (htr _ (by rw [hmv]; exact hind))
    have hl2 : vs.length = (c :: c2 :: l).length := hrep.len
    rw [dif_neg (by simp [hl2])]
    have e : ∃ r1 r2 rs', nilAs P ts vs' = r1 :: r2 :: rs' := by
      have := hs.len
      rw [hl2] at this
      match hn : nilAs P ts vs' with
      | [] => rw [hn] at this; simp at this
      | [_] => rw [hn] at this; simp at this
      | r1 :: r2 :: rs' => exact ⟨_, _, _, rfl⟩
    obtain ⟨r1, r2, rs', e⟩ := e
    rw [e] at hs ⊢
    exact ⟨vs.toArray, rfl, hs⟩
theorem init_rel {w : World} {S F : Nat → Prop} {args : List AV} {vals : Array Value} (N : Nat) (hold : ∀ b, S b ∨ F b → b < w.heap.size) (hreps : RepVs ⟨w, S, F, fun _ => none, fun _ => undef, fun _ => False⟩ true (.read .ent) 0 args vals.toList) :
    Rel ⟨w, fun _ => False, []⟩ S F (vals.size + (N - vals.size)) (St.init args) { tmps := vals ++ Array.replicate (N - vals.size) undef, defers := [] } w := by
  have hlen : vals.size = args.length := by simpa using hreps.len
  refine ⟨fun _ => none, fun _ => undef, by simp, rfl, fun k => ?_, fun id ob hob => by simp [St.init, initS] at hob, fun b p hb => by simp at hb, fun x y hx => by simp [St.init, initS] at hx, fun b hb h => h.elim (fun h => absurd (hold b hb) (Nat.not_lt_of_le h)) id, Bs.bel.refl _⟩
  show Rep _ false (.read .ent) (initE args k) _
  unfold initE
  split
  · rename_i c hc
    obtain ⟨y, h1, h2⟩ := hreps.at_ hc
    have hk : k < vals.size := by rw [hlen]; exact (List.getElem?_eq_some_iff.1 hc).1
    have h3 : (vals ++ Array.replicate (N - vals.size) undef).getD k undef = y := by
      have : vals[k]? = some y := by simpa using h1
      simp [Array.getD_eq_getD_getElem?, Array.getElem?_append_left hk, this]
    rw [h3]
    have hst : Stays ⟨w, S, F, fun _ => none, fun _ => undef, fun _ => False⟩ (cx w S F (fun _ => none) (fun _ => undef) (St.init args).σ) := ⟨fun b h => ⟨h, rfl⟩, fun b h => ⟨h, rfl⟩⟩
    have htr : Tr ⟨w, S, F, fun _ => none, fun _ => undef, fun _ => False⟩ (cx w S F (fun _ => none) (fun _ => undef) (St.init args).σ) (.read .ent) (.read .ent) := ⟨fun _ => trivial, fun b h => ⟨h, rfl⟩⟩
    exact asrdA_rep (Rep.tr hst htr _ _ h2)
  · trivial
theorem Meets.introO {P : Program} {f : FuncId} {args : List AV} {post : AV → Prop} {fn : Func} {c : Code} (hm : P.follows .mixedOrders = true) (H : Nat → Nat) (O : Nat → List Nat) (hf : P.funcs[f]? = some fn) (hb : fn.body = some c) (hn : (fn.name != "runtime.NumGoroutine") = true)
    {rs : List ResultVar} {ts : List TypeId} (hr : fn.results.toList = rs) (ht : fn.resultTypes.toList = ts)
    (hw : wfCode O fn.ntmps c = true) (h : awp P H O c (St.init args) (RetQ P rs ts post)) : Meets P f args post := by
  refine ⟨by rw [hf]; simp only [hb, hn]; rfl, fun w S F base vals hold hreps => calls_of_wp hf hb ?_⟩
  have hlen : vals.size = args.length := by simpa using hreps.len
  let n := vals.size + (fn.ntmps - vals.size)
  have hR := init_rel fn.ntmps hold hreps
  refine awp_sound hm c (wf_mono (by omega) hw) hR h fun e s a w' hR he => ?_
  obtain ⟨L, m, R⟩ := hR
  have fin : retE P rs ts s post → a.defers = [] ∧ ∃ v, (results fn a.tmps).run P w' = .ok v w' ∧ ∃ r v' L, post r ∧ Ending.returned v = .returned v' ∧ Rep ⟨w', S, F, L, fun _ => undef, fun _ => False⟩ true (.own base) r v' ∧
      (∀ b p, L b = some p → w.heap.size ≤ b ∧ b < w'.heap.size) ∧ Below w.heap.size w w' := fun he => by
    refine ⟨R.defers, ?_⟩
    obtain ⟨v, h1, r, L', h2, h3, h4⟩ := ret_fin R hr he base
    refine ⟨v, h1, r, v, L', h2, rfl, h3, fun b p hb => ?_, R.below.below (fun _ h => h)⟩
    obtain ⟨p', hp'⟩ := Option.isSome_iff_exists.1 (h4 b p hb)
    exact ⟨(R.lab b p' hp').1.elim id False.elim, (R.lab b p' hp').2⟩
  cases e with
  | normal => exact fin he
  | ret => exact fin he
  | exit i => exact False.elim he
theorem Meets.intro {P : Program} {f : FuncId} {args : List AV} {post : AV → Prop} {fn : Func} {c : Code} (hm : P.follows .mixedOrders = true) (H : Nat → Nat) (hf : P.funcs[f]? = some fn) (hb : fn.body = some c) (hn : (fn.name != "runtime.NumGoroutine") = true)
    {rs : List ResultVar} {ts : List TypeId} (hr : fn.results.toList = rs) (ht : fn.resultTypes.toList = ts)
    (hw : wfCode (fun _ => []) fn.ntmps c = true) (h : awp P H (fun _ => []) c (St.init args) (RetQ P rs ts post)) : Meets P f args post :=
  Meets.introO hm H _ hf hb hn hr ht hw h
end Go.Ev
set_option linter.unusedVariables false
set_option linter.unusedSimpArgs false
namespace Go.Ev
open Go Go.RowKit
section
variable {P : Program} {H : Nat → Nat} {W0 : Bs} {S F : Nat → Prop} {n : Nat} {L : Nat → Option Id} {m : Id → Value} {s : St} {a : Act} {w : World} {K : St → Prop}
theorem RepPs.at_ {C : Cx} : ∀ {ps : List PA} {vs : List Value} {q j : Nat} {p : PA}, RepPs C q ps vs → ps[j]? = some p → ∃ v, vs[j]? = some v ∧ (match p with | .rd c => Rep C true (.read .ent) c v | .mu c => Rep C true (.own [q + j]) c v)
  | [], _, _, _, _, _, h => by simp at h
  | .rd c :: ps, vs, q, 0, p, h, hi => by
    obtain rfl : PA.rd c = p := by simpa using hi
    obtain ⟨y, ys, rfl, h1, _⟩ := h
    exact ⟨y, by simp, h1⟩
  | .mu c :: ps, vs, q, 0, p, h, hi => by
    obtain rfl : PA.mu c = p := by simpa using hi
    obtain ⟨y, ys, rfl, h1, _⟩ := h
    exact ⟨y, by simp, h1⟩
  | .rd c :: ps, vs, q, j + 1, p, h, hi => by
    obtain ⟨y, ys, rfl, _, h2⟩ := h
    obtain ⟨v, g1, g2⟩ := RepPs.at_ (j := j) h2 (by simpa using hi)
    exact ⟨v, by simpa using g1, by rwa [show q + 1 + j = q + (j + 1) by omega] at g2⟩
  | .mu c :: ps, vs, q, j + 1, p, h, hi => by
    obtain ⟨y, ys, rfl, _, h2⟩ := h
    obtain ⟨v, g1, g2⟩ := RepPs.at_ (j := j) h2 (by simpa using hi)
    exact ⟨v, by simpa using g1, by rwa [show q + 1 + j = q + (j + 1) by omega] at g2⟩
theorem RepPs.len {C : Cx} : ∀ {ps : List PA} {vs : List Value} {q : Nat}, RepPs C q ps vs → vs.length = ps.length
  | [], _, _, h => by rw [show _ = [] from h]; rfl
  | .rd c :: ps, vs, q, h => by obtain ⟨y, ys, rfl, _, h2⟩ := h; simp [RepPs.len h2]
  | .mu c :: ps, vs, q, h => by obtain ⟨y, ys, rfl, _, h2⟩ := h; simp [RepPs.len h2]
theorem objsM_mem {vals : Nat → Value} {x : Id × OB} : ∀ {ps : List PA} {q : Nat}, x ∈ objsM vals q ps → ∃ (j : Nat) (c : AV), ps[j]? = some (.mu c) ∧ (x ∈ (opnB [1000000] (q + j) c).2 ∨ x = ([1000001, q + j], .pin (opnB [1000000] (q + j) c).1 (vals (q + j))))
  | [], q, h => by simp [objsM] at h
  | .rd c :: ps, q, h => by
    obtain ⟨j, c', h1, h2⟩ := objsM_mem (ps := ps) (q := q + 1) h
    exact ⟨j + 1, c', by simpa using h1, by rwa [show q + 1 + j = q + (j + 1) by omega] at h2⟩
  | .mu c :: ps, q, h => by
    simp only [objsM, List.mem_append, List.mem_cons] at h
    rcases h with h | h | h
    · exact ⟨0, c, rfl, .inl h⟩
    · exact ⟨0, c, rfl, .inr h⟩
    · obtain ⟨j, c', h1, h2⟩ := objsM_mem (ps := ps) (q := q + 1) h
      exact ⟨j + 1, c', by simpa using h1, by rwa [show q + 1 + j = q + (j + 1) by omega] at h2⟩
theorem objsM_of {vals : Nat → Value} {x : Id × OB} : ∀ {ps : List PA} {q j : Nat} {c : AV}, ps[j]? = some (.mu c) → x ∈ (opnB [1000000] (q + j) c).2 → x ∈ objsM vals q ps
  | [], _, _, _, h, _ => by simp at h
  | .rd c :: ps, q, 0, _, h, _ => by simp at h
  | .mu c :: ps, q, 0, _, h, hx => by
    obtain rfl : c = _ := by simpa using h
    simp [objsM, show x ∈ (opnB [1000000] q c).2 from hx]
  | .rd c :: ps, q, j + 1, c', h, hx => by
    exact objsM_of (ps := ps) (q := q + 1) (j := j) (c := c') (by simpa using h) (by rwa [show q + 1 + j = q + (j + 1) by omega])
  | .mu c :: ps, q, j + 1, c', h, hx => by
    have := objsM_of (vals := vals) (ps := ps) (q := q + 1) (j := j) (c := c') (by simpa using h) (by rwa [show q + 1 + j = q + (j + 1) by omega])
    simp [objsM, this]
def mvTC (s : St) (t : Id) : AV → List (Id × Id)
  | .ref id => (match s.σ id with | some (.row ..) => [(id, t)] | _ => [])
  | _ => []
def mvTL (s : St) (t : Id) : Nat → List AV → List (Id × Id)
  | _, [] => []
  | q, c :: cs => mvTC s (t ++ [q]) c ++ mvTL s t (q + 1) cs
def mvTA (s : St) (t : Id) : AV → List (Id × Id)
  | .agg cs => mvTL s t 0 cs
  | .ptr id _ 0 0 => (match s.σ id with | some (.box _ cs) => (match s.clL cs with | some _ => (id, t ++ [0]) :: mvCs (t ++ [1]) 0 cs | none => []) | _ => [])
  | a => mvTC s t a
def mvTs (s : St) (I : List Id) (t : Id) : Nat → List PA → List (Id × Id)
  | _, [] => []
  | q, .rd _ :: ps => mvTs s I t (q + 1) ps
  | q, .mu _ :: ps => mvTA s (t ++ [q]) ((pinOf (s.σ [1000001, q])).kill I []) ++ mvTs s I t (q + 1) ps
theorem clC_none {c : AV} {x : AV × List Id} (h : s.clC c = some x) (hr : ∀ id, c ≠ .ref id) : x.2 = [] := by
  have := clC_mv (show s.clC c = some (x.1, x.2) from h) []
  cases c <;> first | exact absurd rfl (hr _) | (simp [mvC] at this; exact this)
theorem clTC_mv (t : Id) : ∀ c : AV, (mvTC s t c).map (·.1) = (s.clTC c).2
  | .ref id => by
    cases h : s.σ id with
    | none => simp [mvTC, St.clTC, rowT, h]
    | some ob => cases ob <;> simp [mvTC, St.clTC, rowT, h]
  | .any => rfl
  | .v u => by
    show [] = (getO (s.clC (.v u)) (.any, [])).2
    cases h : s.clC (.v u) with
    | none => rfl
    | some x => exact (clC_none h (by simp)).symm
  | .row .. => rfl
  | .rd o e sz els => by
    show [] = (getO (s.clC (.rd o e sz els)) (.any, [])).2
    cases h : s.clC (.rd o e sz els) with
    | none => rfl
    | some x => exact (clC_none h (by simp)).symm
  | .rp .. => rfl
  | .ptr .. => rfl
  | .agg .. => rfl
  | .tup .. => rfl
  | .bx .. => rfl
  | .ifc t' a => by
    show [] = (getO (s.clC (.ifc t' a)) (.any, [])).2
    cases h : s.clC (.ifc t' a) with
    | none => rfl
    | some x => exact (clC_none h (by simp)).symm
  | .fn f cs => by
    show [] = (getO (s.clC (.fn f cs)) (.any, [])).2
    cases h : s.clC (.fn f cs) with
    | none => rfl
    | some x => exact (clC_none h (by simp)).symm
theorem clTL_mv (t : Id) : ∀ (cs : List AV) (q : Nat), (mvTL s t q cs).map (·.1) = (s.clTL cs).2
  | [], _ => rfl
  | c :: cs, q => by rw [mvTL, List.map_append, clTC_mv, clTL_mv t cs (q + 1)]; rfl
theorem clT_mv (t : Id) (ts : List (Option (Nat × Nat))) : ∀ c : AV, (mvTA s t c).map (·.1) = (s.clT P ts c).2
  | .agg cs => clTL_mv t cs 0
  | .ptr id sz i k => by
    unfold mvTA St.clT
    split
    · rename_i e; cases e
    · rename_i e
      injection e with e1 e2 e3 e4
      subst e1; subst e3; subst e4
      simp only []
      unfold boxT
      cases h : s.σ id with
      | none => rfl
      | some ob =>
        cases ob with
        | box tt cs =>
          simp only []
          cases h2 : s.clL cs with
          | none => rfl
          | some x =>
            have := clL_mv (show s.clL cs = some (x.1, x.2) from h2) (t ++ [1]) 0
            simp [getO, bindO, this]
        | _ => rfl
    · rename_i h1 h2
      split
      · rename_i e; cases e
      · rename_i e
        injection e with e1 e2 e3 e4
        subst e1; subst e3; subst e4
        exact absurd rfl (h2 _ _)
      · exact clTC_mv t _
  | .any => clTC_mv (s := s) t (.any)
  | .v u => clTC_mv (s := s) t (.v u)
  | .row e z l => clTC_mv (s := s) t (.row e z l)
  | .rd o e z l => clTC_mv (s := s) t (.rd o e z l)
  | .rp o e z l i k => clTC_mv (s := s) t (.rp o e z l i k)
  | .ref i => clTC_mv (s := s) t (.ref i)
  | .tup l => clTC_mv (s := s) t (.tup l)
  | .bx e l => clTC_mv (s := s) t (.bx e l)
  | .ifc e b => clTC_mv (s := s) t (.ifc e b)
  | .fn e l => clTC_mv (s := s) t (.fn e l)
theorem clTs_mv (I : List Id) (t : Id) : ∀ (ps : List PA) (ts : List TypeId) (q : Nat), ps.length = ts.length → (mvTs s I t q ps).map (·.1) = (s.clTs P I q ps ts).2
  | [], ts, q, _ => by cases ts <;> rfl
  | .rd _ :: ps, [], q, h => by simp at h
  | .mu _ :: ps, [], q, h => by simp at h
  | .rd _ :: ps, _ :: ts, q, h => clTs_mv I t ps ts (q + 1) (by simpa using h)
  | .mu _ :: ps, t' :: ts, q, h => by
    rw [mvTs, List.map_append, clT_mv (P := P) _ (cty P t'), clTs_mv I t ps ts (q + 1) (by simpa using h)]; rfl
theorem clTC_sound (R : RelC W0 S F n L m s a w) {C' : Cx} (hs : Stays (cx w S F L m s.σ) C') {c : AV} {y : Value} (hr : Rep (cx w S F L m s.σ) false (.read .ent) c y) {t : Id}
    (htr : ∀ x ∈ mvTC s t c, Tr (cx w S F L m s.σ) C' (.own x.1) (.own x.2)) : Rep C' true (.own t) (s.clTC c).1 y := by
  have plain : (∀ id, c ≠ .ref id) → s.clTC c = getO (s.clC c) (.any, []) → Rep C' true (.own t) (s.clTC c).1 y := fun hc e => by
    rw [e]
    cases h : s.clC c with
    | none => trivial
    | some x => exact (clC_sound R hs (show s.clC c = some (x.1, x.2) from h) hr (fun z hz => by
        have := clC_mv (show s.clC c = some (x.1, x.2) from h) t
        rw [clC_none h hc] at this
        rw [List.map_eq_nil_iff] at this
        rw [this] at hz; simp at hz)).1
  cases c with
  | ref id =>
    show Rep C' true (.own t) (rowT id (s.σ id)).1 y
    unfold rowT
    split
    · rename_i e sz els hob
      rw [show y = m id from hr.2.2.2]
      exact Rep.tr hs (htr (id, t) (by simp [mvTC, hob])) _ _ (R.obj id _ hob)
    · trivial
  | _ => exact plain (by simp) rfl
theorem clTL_sound (R : RelC W0 S F n L m s a w) {C' : Cx} (hs : Stays (cx w S F L m s.σ) C') {t : Id} : ∀ {cs : List AV} {vs : List Value} {q q' : Nat}, RepVs (cx w S F L m s.σ) false (.read .ent) q' cs vs → (∀ x ∈ mvTL s t q cs, Tr (cx w S F L m s.σ) C' (.own x.1) (.own x.2)) → ∀ ts, RepVs C' true (.own t) q (nilL ts (s.clTL cs).1) vs
  | [], vs, q, q', hr, _, ts => by cases ts <;> exact hr
  | c :: cs, vs, q, q', hr, htr, ts => by
    obtain ⟨y, ys, rfl, h1, h2⟩ := hr
    have g1 := clTC_sound R hs h1 (t := t ++ [q]) (fun x hx => htr x (by simp [mvTL, hx]))
    cases ts with
    | nil =>
      have := clTL_sound R hs (t := t) (q := q + 1) h2 (fun x hx => htr x (by simp [mvTL, hx])) []
      refine ⟨y, ys, rfl, g1, ?_⟩
      simpa [nilL] using this
    | cons ty ts => exact ⟨y, ys, rfl, rep_nilC g1 ty, clTL_sound R hs (t := t) (q := q + 1) h2 (fun x hx => htr x (by simp [mvTL, hx])) ts⟩
theorem clT_sound (R : RelC W0 S F n L m s a w) {C' : Cx} (hs : Stays (cx w S F L m s.σ) C') {c : AV} {y : Value} (hr : Rep (cx w S F L m s.σ) false (.read .ent) c y) {t : Id}
    (htr : ∀ x ∈ mvTA s t c, Tr (cx w S F L m s.σ) C' (.own x.1) (.own x.2)) (ts : List (Option (Nat × Nat))) : Rep C' true (.own t) (s.clT P ts c).1 y := by
  have plain : s.clT P ts c = (nilC (ts.headD none) (s.clTC c).1, (s.clTC c).2) → mvTA s t c = mvTC s t c → Rep C' true (.own t) (s.clT P ts c).1 y := fun e e' => by
    rw [e]
    exact rep_nilC (clTC_sound R hs hr (by rw [← e']; exact htr)) _
  cases c with
  | agg cs =>
    obtain ⟨vs, rfl, hr⟩ := hr
    exact ⟨vs, rfl, clTL_sound R hs hr htr ts⟩
  | ptr id sz i k =>
    by_cases hik : i = 0 ∧ k = 0
    · obtain ⟨rfl, rfl⟩ := hik
      show Rep C' true (.own t) (boxT P s id (s.σ id)).1 y
      unfold boxT
      cases hob : s.σ id with
      | none => trivial
      | some ob =>
        cases ob with
        | box tt cs =>
          simp only []
          cases hcl : s.clL cs with
          | none => trivial
          | some x =>
            simp only [mvTA, hob, hcl] at htr
            obtain ⟨g, arr, h1, h2, h3, h4, h5⟩ := R.obj id _ hob
            obtain ⟨_, _, g', off, h6, rfl⟩ := hr
            rw [h1] at h6
            simp only [hdrAddr, Option.some.injEq, Addr.mk.injEq] at h6
            obtain ⟨rfl, rfl, _⟩ := h6
            have ht := (htr (id, t ++ [0]) (by simp)) g [] (by simpa using h2)
            have hcell : ∀ o, C'.w.cell? ⟨g, o, none⟩ = w.cell? ⟨g, o, none⟩ := fun o => cell_same ht.2 o
            obtain ⟨vs, g1, g2⟩ := h5.cells
            have hreps : RepVs (cx w S F L m s.σ) false (.read .ent) 0 cs vs := RepVs.of g1 fun j c hc => by
              obtain ⟨y, k1, _, k3⟩ := h5.at_ hc
              have hj : j < vs.length := by rw [g1]; exact (List.getElem?_eq_some_iff.1 hc).1
              have h7 : vs[j]? = some vs[j] := List.getElem?_eq_getElem hj
              have h8 := (g2 j _ h7).1
              rw [k1] at h8
              exact ⟨y, by rw [h7, h8], k3⟩
            obtain ⟨k1, k2, k3, k4⟩ := clL_sound (p := t ++ [1]) R hs (show s.clL cs = some (x.1, x.2) from hcl) (q := 0) hreps (fun x hx => htr x (by simp [hx]))
            show Rep C' true (.own t) (.bx tt (nilL (cty P tt) x.1)) _
            refine ⟨g, arr, by simp, by simpa using ht.1, ht.2.trans h3, by rw [nilL_length, k1]; exact h4, RepCs.of fun j c hc => ?_⟩
            obtain ⟨ty, u, h7, rfl⟩ := nilL_at hc
            obtain ⟨y, h8, h9⟩ := k4 j u h7
            exact ⟨y, (hcell _).trans (g2 j y h8).1, k3 y (List.mem_of_getElem? h8), rep_nilC h9 ty⟩
        | _ => trivial
    · refine plain ?_ ?_
      · unfold St.clT
        split
        · rename_i e; cases e
        · rename_i e; injection e with e1 e2 e3 e4; exact absurd ⟨e3, e4⟩ hik
        · rfl
      · unfold mvTA
        split
        · rename_i e; cases e
        · rename_i e; injection e with e1 e2 e3 e4; exact absurd ⟨e3, e4⟩ hik
        · rfl
  | _ => exact plain rfl rfl
theorem clTs_sound (R : RelC W0 S F n L m s a w) (I : List Id) {C' : Cx} (hs : Stays (cx w S F L m s.σ) C') {t : Id} {vals : Nat → Value} : ∀ {ps : List PA} {ts : List TypeId} {vs : List Value} {q : Nat}, ps.length = ts.length → vs.length = ps.length → (∀ (j : Nat) v, vs[j]? = some v → vals (q + j) = v) → pinsE s vals q ps → (∀ x ∈ mvTs s I t q ps, Tr (cx w S F L m s.σ) C' (.own x.1) (.own x.2)) → RepVs C' true (.own t) q (s.clTs P I q ps ts).1 vs
  | [], ts, vs, q, _, hv, _, _, _ => by
    obtain rfl : vs = [] := by cases vs with | nil => rfl | cons => simp at hv
    cases ts <;> rfl
  | .rd _ :: ps, [], _, _, h, _, _, _, _ => by simp at h
  | .mu _ :: ps, [], _, _, h, _, _, _, _ => by simp at h
  | _ :: _, _ :: _, [], _, _, h, _, _, _ => by simp at h
  | .rd _ :: ps, _ :: ts, v :: vs, q, hl, hv, hval, hpin, htr =>
    ⟨v, vs, rfl, trivial, clTs_sound R I hs (by simpa using hl) (by simpa using hv) (fun j u hj => by have := hval (j + 1) u (by simpa using hj); rwa [show q + (j + 1) = q + 1 + j by omega] at this) hpin htr⟩
  | .mu _ :: ps, t' :: ts, v :: vs, q, hl, hv, hval, hpin, htr => by
    refine ⟨v, vs, rfl, ?_, clTs_sound R I hs (by simpa using hl) (by simpa using hv) (fun j u hj => by have := hval (j + 1) u (by simpa using hj); rwa [show q + (j + 1) = q + 1 + j by omega] at this) hpin.2 (fun x hx => htr x (by simp [mvTs, hx]))⟩
    have h0 : vals q = v := by simpa using hval 0 v (by simp)
    have hp := hpin.1
    refine clT_sound (P := P) R hs (Rep.weak I _ _ ?_) (t := t ++ [q]) (fun x hx => htr x (by simp [mvTs, hx])) (cty P t')
    cases hob : s.σ [1000001, q] with
    | none => trivial
    | some ob =>
      cases ob with
      | pin c x =>
        rw [hob] at hp
        have hp : x = vals q := hp
        have := R.obj _ _ hob
        rw [← h0, ← hp]
        exact this
      | _ => trivial
end
theorem MeetsM.introO {P : Program} {f : FuncId} {args : List PA} {post : AV → List AV → Prop} {fn : Func} {c : Code} (hm : P.follows .mixedOrders = true) (H : Nat → Nat) (O : Nat → List Nat) (hf : P.funcs[f]? = some fn) (hb : fn.body = some c) (hn : (fn.name != "runtime.NumGoroutine") = true)
    {rs : List ResultVar} {ts pts : List TypeId} (hr : fn.results.toList = rs) (ht : fn.resultTypes.toList = ts) (hp : args.length = pts.length)
    (hw : wfCode O fn.ntmps c = true) (h : ∀ vals : Nat → Value, awp P H O c (St.initM vals args) (RetQM P rs ts pts vals args post)) : MeetsM P f args post := by
  refine ⟨by rw [hf]; simp only [hb, hn]; rfl, fun w S F L0 base vals hold hL0 hreps => calls_of_wp hf hb ?_⟩
  have hlen : vals.size = args.length := by simpa using hreps.len
  let n := vals.size + (fn.ntmps - vals.size)
  let vf : Nat → Value := fun q => vals.getD q undef
  let B : Bs := ⟨w, fun b => L0 b ≠ none, []⟩
  let L : Nat → Option Id := fun b => (L0 b).map (1000000 :: ·)
  let m : Id → Value := fun id => match id with | 1000000 :: q :: p => nav w p (vf q) | _ => undef
  have hvf : ∀ (q : Nat) v, vals.toList[q]? = some v → vf q = v := fun q v hq => by
    have : vals[q]? = some v := by simpa using hq
    simp [vf, Array.getD_eq_getD_getElem?, this]
  have hst : Stays ⟨w, S, F, L0, fun _ => undef, fun _ => False⟩ (cx w S F L m (St.initM vf args).σ) := ⟨fun b h => ⟨h, rfl⟩, fun b h => ⟨h, rfl⟩⟩
  have htr : ∀ q, Tr ⟨w, S, F, L0, fun _ => undef, fun _ => False⟩ (cx w S F L m (St.initM vf args).σ) (.own [q]) (.own ([1000000] ++ [q])) := fun q b r hb => ⟨by
    show (L0 b).map (1000000 :: ·) = _
    rw [show L0 b = some ([q] ++ r) from hb]; rfl, rfl⟩
  have harg : ∀ (q : Nat) (c : AV), args[q]? = some (.mu c) → Rep (cx w S F L m (St.initM vf args).σ) false (.read .ent) (opnB [1000000] q c).1 (vf q) ∧ ∀ x ∈ (opnB [1000000] q c).2, RepOb (cx w S F L m (St.initM vf args).σ) x.1 x.2 := fun q c hq => by
    obtain ⟨v, h1, h2⟩ := hreps.at_ hq
    simp only [Nat.zero_add] at h2
    rw [hvf q v h1]
    refine opnB_sound (Rep.tr hst (htr q) _ _ h2) (fun p => ?_) (fun x hx => updL_live (.inr ⟨x.2, objsM_of (q := 0) (j := q) hq (by simpa using hx)⟩))
    show nav w p (vf q) = nav w p v
    rw [hvf q v h1]
  have hR : Rel B S F n (St.initM vf args) { tmps := vals ++ Array.replicate (fn.ntmps - vals.size) undef, defers := [] } w := by
    refine ⟨L, m, by simp [n], rfl, fun k => ?_, fun id ob hob => ?_, fun b p hb => ?_, fun x y hx hy hc => ?_, fun b hb h => ?_, Bs.bel.refl _⟩
    · show Rep _ false (.read .ent) (initEM args k) _
      have hget : ∀ v, vals.toList[k]? = some v → (vals ++ Array.replicate (fn.ntmps - vals.size) undef).getD k undef = v := fun v hv => by
        have hk : vals[k]? = some v := by simpa using hv
        have hk' : k < vals.size := (Array.getElem?_eq_some_iff.1 hk).1
        simp [Array.getD_eq_getD_getElem?, Array.getElem?_append_left hk', hk]
      unfold initEM
      split
      · rename_i c hc
        obtain ⟨v, h1, h2⟩ := hreps.at_ hc
        rw [hget v h1]
        exact rep_asrd (Rep.tr hst (show Tr _ _ (.read .ent) (.read .ent) from ⟨fun _ => trivial, fun b h => ⟨h, rfl⟩⟩) _ _ h2)
      · rename_i c hc
        obtain ⟨v, h1, _⟩ := hreps.at_ hc
        rw [hget v h1, ← hvf k v h1]
        exact (harg k c hc).1
      · trivial
    · rcases updL_some (show updL initS (objsM vf 0 args) id = some ob from hob) with h1 | ⟨h1, _⟩
      · obtain ⟨j, c, hj, h2⟩ := objsM_mem h1
        rw [Nat.zero_add] at h2
        rcases h2 with h2 | h2
        · exact (harg j c hj).2 _ h2
        · injection h2 with e1 e2
          subst e1; subst e2
          exact (harg j c hj).1
      · simp [initS] at h1
    · cases hL : L0 b with
      | none => have hb' : (L0 b).map (1000000 :: ·) = some p := hb; rw [hL] at hb'; cases hb'
      | some q => exact ⟨.inr (by show L0 b ≠ none; rw [hL]; simp), hL0 b q hL⟩
    · obtain ⟨o1, h1⟩ := Option.isSome_iff_exists.1 hx
      obtain ⟨o2, h2⟩ := Option.isSome_iff_exists.1 hy
      rcases updL_some (show updL initS (objsM vf 0 args) x = some o1 from h1) with h1 | ⟨h1, _⟩
      · rcases updL_some (show updL initS (objsM vf 0 args) y = some o2 from h2) with h2 | ⟨h2, _⟩
        · obtain ⟨j, c, hj, g1⟩ := objsM_mem h1
          obtain ⟨j', c', hj', g2⟩ := objsM_mem h2
          simp only [Nat.zero_add] at g1 g2
          have key : ∀ (x : Id) (o : OB), (x, o) ∈ (opnB [1000000] j c).2 ∨ (x, o) = ([1000001, j], .pin (opnB [1000000] j c).1 (vf j)) → (∃ r, x = 1000000 :: j :: r ∧ (x, o) ∈ (opnB [1000000] j c).2) ∨ x = [1000001, j] := fun x o h => by
            rcases h with h | h
            · obtain ⟨r, hr⟩ := opnB_key _ h
              exact .inl ⟨r, by simpa using hr, h⟩
            · injection h with e1; exact .inr e1
          have key' : ∀ (x : Id) (o : OB), (x, o) ∈ (opnB [1000000] j' c').2 ∨ (x, o) = ([1000001, j'], .pin (opnB [1000000] j' c').1 (vf j')) → (∃ r, x = 1000000 :: j' :: r ∧ (x, o) ∈ (opnB [1000000] j' c').2) ∨ x = [1000001, j'] := fun x o h => by
            rcases h with h | h
            · obtain ⟨r, hr⟩ := opnB_key _ h
              exact .inl ⟨r, by simpa using hr, h⟩
            · injection h with e1; exact .inr e1
          rcases key x o1 g1 with ⟨r, hx', hm1⟩ | hx' <;> rcases key' y o2 g2 with ⟨r', hy', hm2⟩ | hy'
          · have hjj : j = j' := by
              rw [hx', hy'] at hc
              exact (cmp_cons (p := [1000000]) (k := j) (k' := j') (r := r) (r' := r') (by simpa using hc)).1
            subst hjj
            rw [hj] at hj'
            injection hj' with hj'
            injection hj' with hj'
            subst hj'
            exact opnB_ind _ hm1 _ hm2 hc
          · rw [hx', hy'] at hc
            have := (cmp_cons (p := []) (k := 1000000) (k' := 1000001) (r := j :: r) (r' := [j']) (by simpa using hc)).1
            omega
          · rw [hx', hy'] at hc
            have := (cmp_cons (p := []) (k := 1000001) (k' := 1000000) (r := [j]) (r' := j' :: r') (by simpa using hc)).1
            omega
          · rw [hx', hy'] at hc ⊢
            have := (cmp_cons (p := [1000001]) (k := j) (k' := j') (r := []) (r' := []) (by simpa using hc)).1
            rw [this]
        · simp [initS] at h2
      · simp [initS] at h1
    · rcases h with h | h
      · exact absurd (hold b hb).1 (Nat.not_lt_of_le h)
      · exact h (hold b hb).2
  refine awp_sound hm c (wf_mono (by omega) hw) hR (h vf) fun e s a w' hR he => ?_
  obtain ⟨L', m', R⟩ := hR
  have fin : retEM P rs ts pts vf args s post → a.defers = [] ∧ ∃ v, (results fn a.tmps).run P w' = .ok v w' ∧ ∃ r as v' Lr, post r as ∧ Ending.returned v = .returned v' ∧ Rep ⟨w', S, F, Lr, fun _ => undef, fun _ => False⟩ true (.own (base ++ [0])) r v' ∧
      RepVs ⟨w', S, F, Lr, fun _ => undef, fun _ => False⟩ true (.own (base ++ [1])) 0 as vals.toList ∧ (∀ b p, Lr b = some p → (w.heap.size ≤ b ∨ L0 b ≠ none) ∧ b < w'.heap.size) ∧ Bs.bel ⟨w, fun b => L0 b ≠ none, []⟩ w' := fun he => by
    refine ⟨R.defers, ?_⟩
    obtain ⟨l, hl, h1⟩ := onSome.elim he
    obtain ⟨⟨vs', I⟩, hcl, ⟨hind, hpins⟩, hpost⟩ := onSome.elim h1
    obtain ⟨J, hJ⟩ : ∃ J, J = I := ⟨I, rfl⟩
    have hind' : indep (I ++ (s.clTs P J 0 args pts).2) = true := by rw [hJ]; exact hind
    have hpost' : post (tupOf (nilAs P ts vs')) (s.clTs P J 0 args pts).1 := by rw [hJ]; exact hpost
    clear hind hpost
    obtain ⟨vs, hrun, hvl, hreps'⟩ := ret_vals R (fun | .tmp t => Pure.pure (a.tmps.getD t undef) | .cell x t => do loadVar t (← asAddr (a.tmps.getD x undef))) (fun _ => rfl) (fun _ _ => rfl) hl
    have hres : (results fn a.tmps).run P w' = .ok (if h : vs.toArray.size = 1 then vs.toArray[0] else .tuple vs.toArray) w' := by
      unfold results
      rw [show fn.results = rs.toArray by rw [← hr], List.mapM_toArray]
      simp only [Sem.run_bind, Sem.run_map]
      erw [hrun]
      rfl
    have labs : ∀ (ρ : Id → Id) b p, (L' b).map ρ = some p → (w.heap.size ≤ b ∨ L0 b ≠ none) ∧ b < w'.heap.size := fun ρ b p hb => by
      obtain ⟨p', hp', _⟩ := Option.map_eq_some_iff.1 hb
      exact R.lab b p' hp'
    have htr : ∀ (mv : List (Id × Id)), indep (mv.map (·.1)) = true → ∀ x ∈ mv, Tr (cx w' S F L' m' s.σ) ⟨w', S, F, fun b => (L' b).map (mvL mv), fun _ => undef, fun _ => False⟩ (.own x.1) (.own x.2) := fun mv hi x hx b q hb => ⟨by
      have hb' : L' b = some (x.1 ++ q) := hb
      show (L' b).map (mvL mv) = some (x.2 ++ q)
      rw [hb', Option.map_some, mvL_in hi hx], rfl⟩
    have hstf : ∀ mv : List (Id × Id), Stays (cx w' S F L' m' s.σ) ⟨w', S, F, fun b => (L' b).map (mvL mv), fun _ => undef, fun _ => False⟩ := fun mv => ⟨fun b h => ⟨h, rfl⟩, fun b h => ⟨h, rfl⟩⟩
    have hmt := clTs_mv (P := P) (s := s) J (base ++ [1]) args pts 0 hp
    have hback : ∀ mvR : List (Id × Id), indep ((mvR ++ mvTs s J (base ++ [1]) 0 args).map (·.1)) = true → RepVs ⟨w', S, F, fun b => (L' b).map (mvL (mvR ++ mvTs s J (base ++ [1]) 0 args)), fun _ => undef, fun _ => False⟩ true (.own (base ++ [1])) 0 (s.clTs P J 0 args pts).1 vals.toList := fun mvR hi =>
      clTs_sound R J (hstf _) hp (by simpa using hlen) (fun j v hj => by rw [Nat.zero_add]; exact hvf j v hj) hpins (fun x hx => htr _ hi x (List.mem_append.2 (.inr hx)))
    refine ⟨_, hres, ?_⟩
    match l, vs, hreps' 0, hcl with
    | [c], [v], hrep, hcl =>
      simp only [St.clAs] at hcl
      obtain ⟨x, hx, h⟩ := bindO_eq hcl
      obtain ⟨y, hy, h⟩ := bindO_eq h
      obtain rfl := Option.some.inj hy
      simp only [Option.some.injEq, Prod.mk.injEq, List.append_nil] at h
      obtain ⟨rfl, rfl⟩ := h
      have hmv := clA_mv (show s.clA c = some (x.1, x.2) from hx) (base ++ [0])
      have hi : indep ((mvA s (base ++ [0]) c ++ mvTs s J (base ++ [1]) 0 args).map (·.1)) = true := by rw [List.map_append, hmv, hmt]; exact hind'
      refine ⟨_, _, v, fun b => (L' b).map (mvL (mvA s (base ++ [0]) c ++ mvTs s J (base ++ [1]) 0 args)), hpost', rfl, ?_, hback (mvA s (base ++ [0]) c) hi, labs _, R.below⟩
      obtain ⟨y, ys, hyy, hr1, _⟩ := hrep
      obtain ⟨rfl, rfl⟩ : v = y ∧ [] = ys := by simpa using hyy
      have := fun t => clA_sound R (hstf (mvA s (base ++ [0]) c ++ mvTs s J (base ++ [1]) 0 args)) (show s.clA c = some (x.1, x.2) from hx) hr1 (t := base ++ [0]) (fun z hz => htr _ hi z (List.mem_append.2 (.inl hz))) t
      cases ts with
      | nil =>
        show Rep _ true (.own (base ++ [0])) x.1 v
        have := this []
        cases hx1 : x.1 <;> rw [hx1] at this <;> first | exact this | (simpa [nilA, nilL, nilC] using this)
      | cons t ts =>
        have e : nilAs P ts ([] : List AV) = [] := by cases ts <;> rfl
        show Rep _ true (.own (base ++ [0])) (tupOf (nilA (cty P t) x.1 :: nilAs P ts [])) v
        rw [e]
        exact this _
    | [], vs, hrep, hcl =>
      have hvs : vs = [] := hrep
      subst hvs
      obtain ⟨rfl, rfl⟩ : [] = vs' ∧ [] = I := by simpa [St.clAs] using hcl
      have hi : indep ((([] : List (Id × Id)) ++ mvTs s J (base ++ [1]) 0 args).map (·.1)) = true := by rw [List.map_append, hmt]; exact hind'
      refine ⟨_, _, _, fun b => (L' b).map (mvL ([] ++ mvTs s J (base ++ [1]) 0 args)), hpost', rfl, ?_, hback _ hi, labs _, R.below⟩
      have e : nilAs P ts ([] : List AV) = [] := by cases ts <;> rfl
      rw [e]
      exact ⟨#[], rfl, rfl⟩
    | c :: c2 :: l, vs, hrep, hcl =>
      have hmv := clAs_mv hcl (base ++ [0]) 0
      have hi : indep ((mvAs s (base ++ [0]) 0 (c :: c2 :: l) ++ mvTs s J (base ++ [1]) 0 args).map (·.1)) = true := by rw [List.map_append, hmv, hmt]; exact hind'
      refine ⟨_, _, _, fun b => (L' b).map (mvL (mvAs s (base ++ [0]) 0 (c :: c2 :: l) ++ mvTs s J (base ++ [1]) 0 args)), hpost', rfl, ?_, hback _ hi, labs _, R.below⟩
      have hs := clAs_sound (P := P) (p := base ++ [0]) R (hstf (mvAs s (base ++ [0]) 0 (c :: c2 :: l) ++ mvTs s J (base ++ [1]) 0 args)) hcl (q := 0) (ts := ts) hrep (fun z hz => htr _ hi z (List.mem_append.2 (.inl hz)))
      have hl2 : vs.length = (c :: c2 :: l).length := hrep.len
      rw [dif_neg (by simp [hl2])]
      have e : ∃ r1 r2 rs', nilAs P ts vs' = r1 :: r2 :: rs' := by
        have := hs.len
        rw [hl2] at this
        match hn : nilAs P ts vs' with
        | [] => rw [hn] at this; simp at this
        | [_] => rw [hn] at this; simp at this
        | r1 :: r2 :: rs' => exact ⟨_, _, _, rfl⟩
      obtain ⟨r1, r2, rs', e⟩ := e
      rw [e] at hs ⊢
      exact ⟨vs.toArray, rfl, hs⟩
  cases e with
  | normal => exact fin he
  | ret => exact fin he
  | exit i => exact False.elim he
theorem MeetsM.intro {P : Program} {f : FuncId} {args : List PA} {post : AV → List AV → Prop} {fn : Func} {c : Code} (hm : P.follows .mixedOrders = true) (H : Nat → Nat) (hf : P.funcs[f]? = some fn) (hb : fn.body = some c) (hn : (fn.name != "runtime.NumGoroutine") = true)
    {rs : List ResultVar} {ts pts : List TypeId} (hr : fn.results.toList = rs) (ht : fn.resultTypes.toList = ts) (hp : args.length = pts.length)
    (hw : wfCode (fun _ => []) fn.ntmps c = true) (h : ∀ vals : Nat → Value, awp P H (fun _ => []) c (St.initM vals args) (RetQM P rs ts pts vals args post)) : MeetsM P f args post :=
  MeetsM.introO hm H _ hf hb hn hr ht hp hw h
end Go.Ev
