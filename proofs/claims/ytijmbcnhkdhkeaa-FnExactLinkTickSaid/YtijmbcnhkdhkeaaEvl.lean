/- The evaluator, part 12: it is right. -/
import Derived.Test.YtijmbcnhkdhkeaaEvq
set_option linter.unusedVariables false
set_option linter.unusedSimpArgs false
namespace Go.Ev
open Go Go.RowKit
section
variable {P : Program} {H : Nat → Nat} {W0 : Bs} {S F : Nat → Prop} {n : Nat} {L : Nat → Option Id} {m : Id → Value} {s : St} {a : Act} {w : World} {K : St → Prop}

theorem ES.wp {gr : Bool} {o : Oper} (h : ES gr P W0 S F n K o a w) (hg : growOp o.op = true → gr = true) (Q : Exit → Act → World → Prop) : o.wp P a w (fun a' w' => Lift W0 S F n K a' w' ∧ (growOp o.op = true → Grows w w')) Q := by
  obtain ⟨v, w', s', hrun, hR, hK, hG⟩ := h
  unfold Oper.wp
  rcases hrun with hrun | ⟨hrun, rfl⟩
  · rw [hrun]; exact ⟨⟨s', hR, hK⟩, fun h => hG (hg h)⟩
  · rw [hrun]; exact ⟨⟨s', hR, hK⟩, fun h => hG (hg h)⟩
theorem QS.wp {mf : Bool} {o : Oper} (h : QS mf P W0 S F n K o a w) (Q : Exit → Act → World → Prop) : o.wp P a w (fun a' w' => Lift W0 S F n K a' w' ∧ (growOp o.op = true → Grows w w')) Q := by
  obtain ⟨v, s', hrun, hR, hK⟩ := h
  unfold Oper.wp
  rw [hrun w (.inr (Grows.refl w))]; exact ⟨⟨s', hR, hK⟩, fun _ => Grows.refl w⟩
theorem e_store {o : Oper} {T : TypeId} {x y : Operand} (ho : o.op = .store T x y) (hd : dOk n o.dst) (R : RelC W0 S F n L m s a w) (h : opE P H o.dst (.store T x y) s K) : ES false P W0 S F n K o a w := by
  obtain ⟨t, ht, hlen, h1⟩ := onSome.elim (show onSome _ _ from h)
  rcases onAdr.elim h1 with ⟨_, _, _, _, _, _, _, h2⟩ | ⟨id, sz', i, k, hv, h2⟩
  · exact h2.elim
  · rcases onOB.elim h2 with ⟨e, sz, els, hs, h3⟩ | ⟨t', cs, hs, h3⟩
    · obtain ⟨cs, hcs, h3⟩ := onSome.elim h3
      obtain ⟨⟨vs, I⟩, hcl, ⟨hsz, hk, hind, hh⟩, h4⟩ := onSome.elim h3
      have hsz : sz = sz' := hsz
      subst hsz
      exact e_store_row ho hd R ht hv hs hcs hcl hlen hk hind hh h4
    · obtain ⟨⟨hi, hk, hok⟩, h4⟩ := h3
      have hi : i = 0 := hi
      subst hi
      exact e_store_box ho hd R ht hv hs hlen hk hok h4
theorem op_sound {o : Oper} (hd : dOk n o.dst) (R : RelC W0 S F n L m s a w) (h : opE P H o.dst o.op s K) (Q : Exit → Act → World → Prop) : o.wp P a w (fun a' w' => Lift W0 S F n K a' w' ∧ (H 1000000 = 1 → growOp o.op = true → Grows w w')) Q := by
  by_cases hq : quietOp o.op = true
  · exact Go.Oper.wp_mono (fun a' w' hh => ⟨hh.1, fun _ => hh.2⟩) ((quiet_sound hq hd R h).wp Q)
  · cases ho : o.op with
    | store T x y => rw [ho] at h; rw [← ho]; exact Go.Oper.wp_mono (fun a' w' hh => ⟨hh.1, fun _ => hh.2⟩) ((e_store ho hd R h).wp (fun h => by rw [ho] at h; cases h) Q)
    | makeSlice T x y => rw [ho] at h; rw [← ho]; exact Go.Oper.wp_mono (fun a' w' hh => ⟨hh.1, fun _ => hh.2⟩) ((e_make ho hd R h).wp (fun _ => rfl) Q)
    | buildSlice T l ps => rw [ho] at h; rw [← ho]; exact Go.Oper.wp_mono (fun a' w' hh => ⟨hh.1, fun _ => hh.2⟩) ((e_build ho hd R h).wp (fun _ => rfl) Q)
    | box T x => rw [ho] at h; rw [← ho]; exact Go.Oper.wp_mono (fun a' w' hh => ⟨hh.1, fun _ => hh.2⟩) ((e_box ho hd R h).wp (fun _ => rfl) Q)
    | makeMap T r => cases r with
      | none => rw [ho] at h; rw [← ho]; exact Go.Oper.wp_mono (fun a' w' hh => ⟨hh.1, fun _ => hh.2⟩) ((e_makeMap ho hd R h).wp (fun _ => rfl) Q)
      | some r => rw [ho] at h; exact False.elim h
    | mapUpdate T x i y => rw [ho] at h; rw [← ho]; exact Go.Oper.wp_mono (fun a' w' hh => ⟨hh.1, fun _ => hh.2⟩) ((e_mapUpdate ho hd R h).wp (fun h => by rw [ho] at h; cases h) Q)
    | alloc T => rw [ho] at h; rw [← ho]; exact Go.Oper.wp_mono (fun a' w' hh => ⟨hh.1, fun _ => hh.2⟩) ((e_alloc ho hd R h).wp (fun _ => rfl) Q)
    | call c =>
      rw [ho] at h hq
      obtain ⟨callee, args, tys⟩ := c
      have h' : callOp P H o.dst ⟨callee, args, tys⟩ s K := h
      unfold callOp at h'
      split at h'
      · rename_i e
        have e' : callee = _ := e
        subst e'
        rw [← ho]; exact Go.Oper.wp_mono (fun a' w' hh => ⟨hh.1, fun h1 _ => hh.2 h1⟩) (call_sound ho hd R h' Q)
      · rename_i e
        have e' : callee = _ := e
        subst e'
        obtain ⟨f, cs, h1, h2⟩ := onFn.elim h'
        rw [← ho]; exact Go.Oper.wp_mono (fun a' w' hh => ⟨hh.1, fun _ _ => hh.2⟩) (callV_sound ho hd R (h2 (R.ev _)) h1 Q)
      · rename_i e1 e2 e3
        have e1' : callee = _ := e1
        subst e1'; simp [quietOp] at hq
      · rename_i e1 e2 e3
        have e1' : callee = _ := e1
        subst e1'; simp [quietOp] at hq
      · rename_i e1 e2 e3
        have e1' : callee = _ := e1
        have e2' : args = _ := e2
        have e3' : tys = _ := e3
        subst e1'; subst e2'; subst e3'
        rw [← ho]; exact Go.Oper.wp_mono (fun a' w' hh => ⟨hh.1, fun _ => hh.2⟩) ((e_appendOp ho hd R h).wp (fun h => by rw [ho] at h; cases h) Q)
      · rename_i e
        have e' : callee = _ := e
        subst e'
        obtain ⟨t, y, hx, h1⟩ := onIfc.elim h'
        obtain ⟨f, hm, h2⟩ := onSome.elim h1
        rw [← ho]; exact Go.Oper.wp_mono (fun a' w' hh => ⟨hh.1, fun _ _ => hh.2⟩) (callI_sound ho hd R hx hm h2 Q)
      · rename_i e1 e2
        have e1' : callee = _ := e1
        subst e1'; simp [quietOp] at hq
      · exact h'.elim
    | _ => rw [ho] at h hq; first | exact (hq rfl).elim | exact False.elim h

/-! ### guards -/
theorem RelC.setEnv (R : RelC W0 S F n L m s a w) {d : Nat} {x : AV} (h : Rep (cx w S F L m s.σ) false (.read .ent) x (a.tmps.getD d undef)) : RelC W0 S F n L m (s.put (some d) x) a w := by
  refine ⟨R.size, R.defers, fun k => ?_, R.obj, R.lab, R.ind, R.old, R.below⟩
  show Rep (cx w S F L m s.σ) false (.read .ent) (upd s.env d x k) (a.tmps.getD k undef)
  unfold upd
  by_cases e : k = d
  · subst e
    rw [show (k == k) = true by simp]
    exact h
  · rw [show (k == d) = false by simpa using e]
    exact R.env k
/-- What may be looked at otherwise. -/
theorem Wk.rel {s s' : St} (hw : Wk s s') : Rel W0 S F n s a w → Rel W0 S F n s' a w := by
  induction hw with
  | refl s => exact fun h => h
  | @nil s s' d id e sz h k ih =>
    rintro ⟨L, m, R⟩
    have hv := R.env d
    rw [h] at hv
    have R' := R.nilRow id e sz
    have e1 : ((s.chg [id] [id]).obj id (.row e sz [])).σ id = some (.row e sz []) := by show updS _ _ _ _ = _; simp [updS, sel]
    exact ih ⟨_, _, R'.setEnv (x := .ref id) ⟨rfl, by rw [hv.1]; trivial, RelC.live e1, by rw [hv.1]; exact (if_pos rfl).symm⟩⟩
  | @box s s' id k cid e sz t cs h hk hne kw ih =>
    rintro ⟨L, m, R⟩
    have R' := R.nilRow cid e sz
    let s1 := (s.chg [cid] [cid]).obj cid (.row e sz [])
    let m1 : Id → Value := fun y => if y = cid then .slice none 0 0 else m y
    have hne' : id ≠ cid := fun e => by subst e; rw [cmp_refl] at hne; cases hne
    have hs1 : s1.σ id = some (.box t (killL [cid] [cid] cs)) := by
      show updS _ _ _ _ = _
      have e1 : (id == cid) = false := by simpa using hne'
      have h0 : hit [cid] id = false := by simp [hit, hne]
      simp only [updS, e1, sel, St.chg, killS, h0, h, mapOB, OB.kill]
    let σ2 := updS s1.σ id (.box t ((killL [cid] [cid] cs).set k (.ref cid)))
    have hcx : cx w S F L m1 σ2 = cx w S F L m1 s1.σ := by
      unfold cx
      congr 1
      funext y
      have : (σ2 y).isSome = (s1.σ y).isSome := by
        show (updS s1.σ id _ y).isSome = _
        unfold updS
        by_cases e : y = id
        · subst e
          rw [hs1]; simp [sel]
        · have e1 : (y == id) = false := by simpa using e
          rw [e1]; rfl
      rw [this]
    refine ih ⟨L, m1, ⟨R'.size, R'.defers, fun d => ?_, fun y ob hy => ?_, R'.lab, fun x y hx hy hc => ?_, R'.old, R'.below⟩⟩
    · show Rep (cx w S F L m1 σ2) false (.read .ent) _ _
      rw [hcx]; exact R'.env d
    · show RepOb (cx w S F L m1 σ2) y ob
      rw [hcx]
      have hy : updS s1.σ id (.box t ((killL [cid] [cid] cs).set k (.ref cid))) y = some ob := hy
      unfold updS at hy
      by_cases e1 : y = id
      · subst e1
        simp only [beq_self_eq_true, sel, Option.some.injEq] at hy
        subst hy
        obtain ⟨g, arr, h1, h2, h3, h4, h5⟩ := R'.obj y _ hs1
        refine ⟨g, arr, h1, h2, h3, by rw [List.length_set]; exact h4, RepCs.of fun j c hj => ?_⟩
        rw [List.getElem?_set] at hj
        split at hj
        · rename_i e2
          subst e2
          split at hj
          · obtain rfl := Option.some.inj hj
            have hkk : (killL [cid] [cid] cs)[k]? = some (.v (.slice none 0 0)) := by
              have : ∀ (cs : List AV) (k : Nat), cs[k]? = some (.v (.slice none 0 0)) → (killL [cid] [cid] cs)[k]? = some (.v (.slice none 0 0)) := by
                intro cs
                induction cs with
                | nil => intro k h; simp at h
                | cons c cs ih =>
                  intro k h
                  cases k with
                  | zero => obtain rfl : c = _ := by simpa using h
                            rfl
                  | succ k => simpa [killL] using ih k (by simpa using h)
              exact this cs k hk
            obtain ⟨y', k1, k2, k3⟩ := h5.at_ hkk
            have e3 : (s1.σ cid).isSome = true := by show (updS _ _ _ cid).isSome = true; simp [updS, sel]
            exact ⟨y', k1, k2, rfl, k2, e3, by rw [k3.1]; exact (if_pos rfl).symm⟩
          · cases hj
        · exact h5.at_ hj
      · have e2 : (y == id) = false := by simpa using e1
        rw [e2] at hy
        exact R'.obj y ob hy
    · have key : ∀ y, (σ2 y).isSome = true → (s1.σ y).isSome = true := fun y hy => by
        have hy : (updS s1.σ id (.box t ((killL [cid] [cid] cs).set k (.ref cid))) y).isSome = true := hy
        unfold updS at hy
        by_cases e : y = id
        · subst e; rw [hs1]; rfl
        · have e1 : (y == id) = false := by simpa using e
          rw [e1] at hy; exact hy
      exact R'.ind x y (key x hx) (key y hy) hc
theorem guard_cases {ops : Array Oper} {o : Oper} {l : List SOp} {Q' : St → Prop} (R : RelC W0 S F n L m s a w) (h : opsE P H (strip ops o :: l) s Q') :
    (Region.wanted o (yielded ops a.tmps) = true ∧ ∃ s', RelC W0 S F n L m s' a w ∧ opE P H o.dst o.op s' (fun s' => opsE P H l s' Q')) ∨
    (Region.wanted o (yielded ops a.tmps) = false ∧ ∃ s', RelC W0 S F n L m s' a w ∧ opsE P H l (s'.put o.dst (.tup [])) Q') := by
  cases hg : o.guard with
  | none =>
    rw [show strip ops o = ⟨o.dst, o.op, none⟩ by simp [strip, hg, gOf]] at h
    exact .inl ⟨by simp [Region.wanted, hg], s, R, h⟩
  | some g =>
    obtain ⟨j, want⟩ := g
    cases hc : (ops[j]?).bind (·.dst) with
    | none =>
      rw [show strip ops o = ⟨o.dst, o.op, some (none, want)⟩ by simp [strip, hg, gOf, dstO_bind, hc]] at h
      exact False.elim h
    | some c =>
      rw [show strip ops o = ⟨o.dst, o.op, some (some c, want)⟩ by simp [strip, hg, gOf, dstO_bind, hc]] at h
      rcases onGd.elim (show onGd _ _ _ from h) with ⟨t, ht, h1⟩ | ⟨ht, h1⟩
      case inr =>
        have hR := R.env c
        rw [ht] at hR
        obtain ⟨vs, hv, _⟩ := hR
        have hw : Region.wanted o (yielded ops a.tmps) = false := by
          cases hx : a.tmps[c]? with
          | none => simp [Region.wanted, hg, yielded, hc, hx]
          | some x =>
            have : x = .tuple vs := by simpa [Array.getD_eq_getD_getElem?, hx] using hv
            subst this
            simp [Region.wanted, hg, yielded, hc, hx]
        exact .inr ⟨hw, s, R, h1⟩
      have hR := R.env c
      rw [ht] at hR
      have hv : a.tmps.getD c undef = .bool t := hR.1
      have hv' : a.tmps[c]? = some (.bool t) := by
        cases hx : a.tmps[c]? with
        | none => simp [Array.getD_eq_getD_getElem?, hx, undef] at hv
        | some x => simp [Array.getD_eq_getD_getElem?, hx] at hv; rw [hv]
      have hw : Region.wanted o (yielded ops a.tmps) = (t == want) := by
        simp [Region.wanted, hg, yielded, hc, hv']
      cases htw : (t == want) with
      | true =>
        have : t = want := by simpa using htw
        subst this
        exact .inl ⟨by rw [hw, htw], _, R.setEnv (x := .v (.bool t)) ⟨hv, trivial⟩, h1.1 htw⟩
      | false =>
        have : t = !want := by cases t <;> cases want <;> simp_all
        subst this
        exact .inr ⟨by rw [hw, htw], _, R.setEnv (x := .v (.bool !want)) ⟨hv, trivial⟩, h1.2 htw⟩

theorem Oper.wp_mono {o : Oper} {a : Act} {w : World} {K K' : Act → World → Prop} {Q : Exit → Act → World → Prop} (hK : ∀ a w, K a w → K' a w) (h : o.wp P a w K Q) : o.wp P a w K' Q := by
  unfold Oper.wp at *
  generalize (execOp a.eval o).run P w = r at *
  cases r with
  | ok nx w' =>
    cases nx with
    | value v => exact hK _ _ h
    | skip => exact hK _ _ h
    | defer d => exact hK _ _ h
    | enter f args => exact Calls.mono h fun e w'' hh => by cases e with | returned v => exact hK _ _ hh | panicked c => exact hh | outgrown => exact hh
    | row r args => exact Rows.mono h fun v w'' hh => hK _ _ hh
    | _ => exact h
  | halt x w' => cases x <;> exact h

theorem ops_sound {ops : Array Oper} {Q : Exit → Act → World → Prop} : ∀ (l : List Oper) {s : St} {a : Act} {w : World}, (∀ o ∈ l, dOk n o.dst) → Rel W0 S F n s a w → opsE P H (stripL ops l) s K → (∀ s a w, Rel W0 S F n s a w → K s → Q .normal a w) → wpList P ops Q l a w
  | [], s, a, w, _, hR, h, hQ => hQ s a w hR h
  | o :: l, s, a, w, hd, ⟨L, m, R⟩, h, hQ => by
    rw [wpList]
    rcases guard_cases R h with ⟨hw, s', R', h1⟩ | ⟨hw, s', R', h1⟩
    · rw [if_pos hw]
      left
      refine Oper.wp_mono (fun a' w' hh => ?_) (op_sound (hd o (by simp)) R' h1 Q)
      obtain ⟨⟨s2, R2, h2⟩, _⟩ := hh
      exact ops_sound l (fun o ho => hd o (by simp [ho])) R2 h2 hQ
    · rw [if_neg (by rw [hw]; simp)]
      exact ops_sound l (fun o ho => hd o (by simp [ho])) ⟨L, m, R'.put (hd o (by simp)) (x := .tup []) ⟨#[], rfl, rfl⟩⟩ h1 hQ
theorem still_sound {ops : Array Oper} {Q : Act → Prop} : ∀ (l : List Oper) {s : St} {a : Act} {w : World}, (∀ o ∈ l, dOk n o.dst ∧ quietOp o.op = true) → Rel W0 S F n s a w → opsE P H (stripL ops l) s K → (∀ s a, Rel W0 S F n s a w → K s → Q a) → wpStill P ops w Q l a
  | [], s, a, w, _, hR, h, hQ => hQ s a hR h
  | o :: l, s, a, w, hd, ⟨L, m, R⟩, h, hQ => by
    rw [wpStill]
    rcases guard_cases R h with ⟨hw, s', R', h1⟩ | ⟨hw, s', R', h1⟩
    · rw [if_pos hw]
      obtain ⟨v, s2, hrun, R2, h2⟩ := quiet_sound (hd o (by simp)).2 (hd o (by simp)).1 R' h1
      unfold Oper.still
      rw [hrun w (.inr (Grows.refl w)), Oper.stillUpon_value]
      exact still_sound l (fun o ho => hd o (by simp [ho])) R2 h2 hQ
    · rw [if_neg (by rw [hw]; simp)]
      exact still_sound l (fun o ho => hd o (by simp [ho])) ⟨L, m, R'.put (hd o (by simp)).1 (x := .tup []) ⟨#[], rfl, rfl⟩⟩ h1 hQ
theorem opsE_append {ops : Array Oper} : ∀ (l1 l2 : List Oper) (K : St → Prop), (fun s => opsE P H (stripL ops (l1 ++ l2)) s K) = fun s => opsE P H (stripL ops l1) s (fun s' => opsE P H (stripL ops l2) s' K)
  | [], l2, K => rfl
  | o :: l1, l2, K => by
    have ih := opsE_append (ops := ops) l1 l2 K
    funext s
    show opsE P H (strip ops o :: stripL ops (l1 ++ l2)) s K = opsE P H (strip ops o :: stripL ops l1) s _
    have e : ∀ s, opsE P H (stripL ops (l1 ++ l2)) s K = opsE P H (stripL ops l1) s (fun s' => opsE P H (stripL ops l2) s' K) := fun s => congrFun ih s
    generalize strip ops o = so
    obtain ⟨d, op, g⟩ := so
    match g with
    | none => simp only [opsE, ih]
    | some (none, _) => rfl
    | some (some c, want) => simp only [opsE, ih, e]
theorem take_quiet {q : Op → Bool} : ∀ (l : List Oper), ∀ o ∈ l.take (l.takeWhile fun o => q o.op).length, q o.op = true
  | [], o, h => by simp at h
  | x :: l, o, h => by
    rw [List.takeWhile_cons] at h
    split at h
    · rename_i hx
      simp only [List.length_cons, List.take_succ_cons, List.mem_cons] at h
      rcases h with rfl | h
      · exact hx
      · exact take_quiet l o h
    · simp at h

end
end Go.Ev
