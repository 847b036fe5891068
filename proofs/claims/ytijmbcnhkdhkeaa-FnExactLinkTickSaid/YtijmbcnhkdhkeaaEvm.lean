/- The evaluator, part 13: what a function returns. -/
import Derived.Test.YtijmbcnhkdhkeaaEvo
set_option linter.unusedVariables false
set_option linter.unusedSimpArgs false
namespace Go.Ev
open Go Go.RowKit
section
variable {P : Program} {H : Nat → Nat} {W0 : Bs} {S F : Nat → Prop} {n : Nat} {L : Nat → Option Id} {m : Id → Value} {s : St} {a : Act} {w : World} {K : St → Prop}
theorem ret_vals (R : RelC W0 S F n L m s a w) (f : ResultVar → Sem Value) (hf : ∀ u, f (.tmp u) = pure (a.tmps.getD u undef)) (hc : ∀ x t, f (.cell x t) = (do loadVar t (← asAddr (a.tmps.getD x undef)))) : ∀ {rs : List ResultVar} {l : List AV}, retA P s rs = some l →
    ∃ vs, (rs.mapM f).run P w = .ok vs w ∧ vs.length = rs.length ∧ ∀ q, RepVs (cx w S F L m s.σ) false (.read .ent) q l vs
  | [], l, h => by obtain rfl := Option.some.inj h; exact ⟨[], by simp, rfl, fun _ => rfl⟩
  | .tmp t :: rs, l, h => by
    obtain ⟨l', hl, h⟩ := bindO_eq (show bindO _ _ = _ from h)
    obtain rfl := Option.some.inj h
    obtain ⟨vs, h1, h2, h3⟩ := ret_vals R f hf hc hl
    exact ⟨a.tmps.getD t undef :: vs, by simp [List.mapM_cons, hf, h1], by simp [h2], fun q => ⟨_, _, rfl, R.env t, h3 _⟩⟩
  | .cell x T :: rs, l, h => by
    obtain ⟨⟨k, g⟩, ht, h⟩ := bindO_eq (show bindO _ _ = _ from h)
    obtain ⟨⟨cs, j⟩, hp, h⟩ := bindO_eq h
    obtain ⟨y, hy, h⟩ := bindO_eq h
    obtain ⟨l', hl, h⟩ := bindO_eq h
    obtain rfl := Option.some.inj h
    obtain ⟨vs, h1, h2, h3⟩ := ret_vals R f hf hc hl
    have hx := R.env x
    have key : ∃ v, (loadVar T (match a.tmps.getD x undef with | .pointer (some b) => b | _ => default)).run P w = .ok v w ∧ (asAddr (a.tmps.getD x undef)).run P w = .ok (match a.tmps.getD x undef with | .pointer (some b) => b | _ => default) w ∧ Rep (cx w S F L m s.σ) false (.read .ent) y v := by
      generalize s.env x = av at hp hx
      unfold ptrBox at hp
      split at hp
      · rename_i id sz k'
        obtain ⟨cs', hb, hp⟩ := bindO_eq hp
        simp only [Option.some.injEq, Prod.mk.injEq] at hp
        obtain ⟨rfl, rfl⟩ := hp
        unfold boxOf at hb
        split at hb
        · rename_i t' cs'' hob
          obtain rfl := Option.some.inj hb
          obtain ⟨_, _, g', off', hg', he⟩ := hx
          obtain ⟨g0, arr, hm, hL, hh, harr, hC⟩ := R.obj id _ hob
          rw [hm] at hg'
          simp only [hdrAddr, Option.some.injEq, Addr.mk.injEq] at hg'
          obtain ⟨rfl, rfl, _⟩ := hg'
          simp only [Nat.zero_mul, Nat.add_zero] at he
          obtain ⟨v, hrun, hrep⟩ := run_load_cut (P := P) ht hC (cl' := false) hy (fun _ c y _ h2 => h2) (fun _ q c y h2 => h2)
          refine ⟨v, ?_, ?_, hrep⟩
          · rw [he]
            have hrun' : (Instr.loadAt T (.pointer (some ⟨g0, 0 + k', none⟩))).run P w = .ok v w := hrun w (Grows.refl w)
            simpa [Instr.loadAt, Instr.sureAddr] using hrun'
          · rw [he]; rfl
        · cases hb
      · cases hp
    obtain ⟨v, h4, h5, h6⟩ := key
    refine ⟨v :: vs, ?_, by simp [h2], fun q => ⟨_, _, rfl, h6, h3 _⟩⟩
    rw [List.mapM_cons, hc]
    simp only [Sem.run_bind, h5, Result.andThen_ok, h4, h1]
    rfl

/-! what goes out, by which name -/
def mvA (s : St) (t : Id) : AV → List (Id × Id)
  | .agg cs => mvCs t 0 cs
  | .ptr id _ 0 0 => (match s.σ id with | some (.box _ cs) => (id, t ++ [0]) :: mvCs (t ++ [1]) 0 cs | _ => [])
  | c => mvC t c
def mvAs (s : St) (p : Id) : Nat → List AV → List (Id × Id)
  | _, [] => []
  | q, c :: cs => mvA s (p ++ [q]) c ++ mvAs s p (q + 1) cs
theorem boxTC_eq {o : Option OB} {b : Nat × List AV} (h : boxTC o = some b) : o = some (.box b.1 b.2) := by
  unfold boxTC at h
  split at h
  · obtain rfl := Option.some.inj h; rfl
  · cases h
theorem clA_ptr {id : Id} {sz i k : Nat} {v : AV} {I : List Id} (h : s.clA (.ptr id sz i k) = some (v, I)) : i = 0 ∧ k = 0 ∧ ∃ tt cs x, s.σ id = some (.box tt cs) ∧ s.clL cs = some x ∧ v = .bx tt x.1 ∧ I = id :: x.2 := by
  unfold St.clA at h
  split at h
  · rename_i e; cases e
  · rename_i e
    injection e with e1 e2 e3 e4
    subst e1; subst e3; subst e4
    obtain ⟨b, hb, h⟩ := bindO_eq h
    obtain ⟨x, hx, h⟩ := bindO_eq h
    simp only [Option.some.injEq, Prod.mk.injEq] at h
    exact ⟨rfl, rfl, b.1, b.2, x, boxTC_eq hb, hx, h.1.symm, h.2.symm⟩
  · cases h
theorem clA_mv {c v : AV} {I : List Id} (h : s.clA c = some (v, I)) (t : Id) : (mvA s t c).map (·.1) = I := by
  cases c with
  | agg cs =>
    obtain ⟨x, hx, h⟩ := bindO_eq (show bindO _ _ = _ from h)
    simp only [Option.some.injEq, Prod.mk.injEq] at h
    rw [← h.2]
    exact clL_mv (show s.clL cs = some (x.1, x.2) from hx) t 0
  | ptr id sz i k =>
    obtain ⟨rfl, rfl, tt, cs, x, h1, h2, rfl, rfl⟩ := clA_ptr h
    have := clL_mv (show s.clL cs = some (x.1, x.2) from h2) (t ++ [1]) 0
    simp [mvA, h1, this]
  | _ => simp only [St.clA] at h; exact clC_mv h t
theorem clAs_mv : ∀ {cs vs : List AV} {I : List Id}, s.clAs cs = some (vs, I) → ∀ (p : Id) (q : Nat), (mvAs s p q cs).map (·.1) = I
  | [], vs, I, h, p, q => by simp [St.clAs] at h; simp [mvAs, h.2]
  | c :: cs, vs, I, h, p, q => by
    simp only [St.clAs] at h
    obtain ⟨x, hx, h⟩ := bindO_eq h
    obtain ⟨y, hy, h⟩ := bindO_eq h
    simp only [Option.some.injEq, Prod.mk.injEq] at h
    rw [mvAs, List.map_append, clA_mv (show s.clA c = some (x.1, x.2) from hx), clAs_mv (show s.clAs cs = some (y.1, y.2) from hy)]
    exact h.2
theorem clA_sound (R : RelC W0 S F n L m s a w) {C' : Cx} (hs : Stays (cx w S F L m s.σ) C') {c v : AV} {I : List Id} (h : s.clA c = some (v, I)) {y : Value} (hr : Rep (cx w S F L m s.σ) false (.read .ent) c y) {t : Id}
    (htr : ∀ x ∈ mvA s t c, Tr (cx w S F L m s.σ) C' (.own x.1) (.own x.2)) (ts : List (Option (Nat × Nat))) : Rep C' true (.own t) (nilA ts v) y := by
  cases c with
  | agg cs =>
    obtain ⟨x, hx, h⟩ := bindO_eq (show bindO _ _ = _ from h)
    simp only [Option.some.injEq, Prod.mk.injEq] at h
    rw [← h.1]
    obtain ⟨vs, rfl, hr⟩ := hr
    obtain ⟨g1, g2, g3, g4⟩ := clL_sound (p := t) R hs (show s.clL cs = some (x.1, x.2) from hx) (q := 0) hr htr
    refine ⟨vs, rfl, RepVs.of (by rw [nilL_length, g1]; simpa using g2) fun j c' hj => ?_⟩
    obtain ⟨ty, u, h3, rfl⟩ := nilL_at hj
    obtain ⟨y, h4, h5⟩ := g4 j u h3
    exact ⟨y, h4, rep_nilC h5 ty⟩
  | ptr id sz i k =>
    obtain ⟨rfl, rfl, tt, cs, x, hob, hcl, rfl, rfl⟩ := clA_ptr h
    simp only [mvA, hob] at htr
    obtain ⟨g, arr, h1, h2, h3, h4, h5⟩ := R.obj id _ hob
    obtain ⟨_, _, g', off, h6, rfl⟩ := hr
    rw [h1] at h6
    simp only [hdrAddr, Option.some.injEq, Addr.mk.injEq] at h6
    obtain ⟨rfl, rfl, _⟩ := h6
    have ht := (htr (id, t ++ [0]) (by simp)) g [] (by simpa using h2)
    have hcell : ∀ o, C'.w.cell? ⟨g, o, none⟩ = w.cell? ⟨g, o, none⟩ := fun o => cell_same ht.2 o
    obtain ⟨vs, g1, g2⟩ := h5.cells
    have hreps : RepVs (cx w S F L m s.σ) false (.read .ent) 0 cs vs := RepVs.of g1 fun j c hc => by
      obtain ⟨y, k1, _, k3⟩ := h5.at_ hc
      have hj : j < vs.length := by rw [g1]; exact (List.getElem?_eq_some_iff.1 hc).1
      have h7 : vs[j]? = some vs[j] := List.getElem?_eq_getElem hj
      have h8 := (g2 j _ h7).1
      rw [k1] at h8
      exact ⟨y, by rw [h7, h8], k3⟩
    obtain ⟨k1, k2, k3, k4⟩ := clL_sound (p := t ++ [1]) R hs (show s.clL cs = some (x.1, x.2) from hcl) (q := 0) hreps (fun x hx => htr x (by simp [hx]))
    have fin : Rep C' true (.own t) (.bx tt x.1) (.pointer (some ⟨g, 0 + 0 * sz + 0, none⟩)) := by
      refine ⟨g, arr, by simp, by simpa using ht.1, ht.2.trans h3, by rw [k1]; exact h4, RepCs.of fun j c hc => ?_⟩
      obtain ⟨y, h8, h9⟩ := k4 j c hc
      exact ⟨y, (hcell _).trans (g2 j y h8).1, k3 y (List.mem_of_getElem? h8), h9⟩
    exact rep_nilC fin _
  | _ =>
    simp only [St.clA] at h
    obtain ⟨g1, g2⟩ := clC_sound R hs h hr htr
    cases v with
    | agg cs => obtain ⟨vs, rfl, _⟩ := g1; exact g2.elim
    | any => trivial
    | tup cs => exact g1
    | _ => exact rep_nilC g1 _
theorem clAs_sound (R : RelC W0 S F n L m s a w) {C' : Cx} (hs : Stays (cx w S F L m s.σ) C') {p : Id} : ∀ {cs vs : List AV} {I : List Id}, s.clAs cs = some (vs, I) → ∀ {ys : List Value} {q q' : Nat} {ts : List TypeId}, RepVs (cx w S F L m s.σ) false (.read .ent) q' cs ys →
    (∀ x ∈ mvAs s p q cs, Tr (cx w S F L m s.σ) C' (.own x.1) (.own x.2)) → RepVs C' true (.own p) q (nilAs P ts vs) ys
  | [], vs, I, h, ys, q, q', ts, hr, _ => by
    simp [St.clAs] at h
    rw [h.1]
    cases ts <;> exact hr
  | c :: cs, vs, I, h, ys, q, q', ts, hr, ht => by
    simp only [St.clAs] at h
    obtain ⟨x, hx, h⟩ := bindO_eq h
    obtain ⟨z, hz, h⟩ := bindO_eq h
    simp only [Option.some.injEq, Prod.mk.injEq] at h
    obtain ⟨y, ys, rfl, hr1, hr2⟩ := hr
    rw [← h.1]
    cases ts with
    | nil =>
      refine ⟨y, ys, rfl, ?_, ?_⟩
      · have := clA_sound R hs (show s.clA c = some (x.1, x.2) from hx) hr1 (t := p ++ [q]) (fun z hz => ht z (by simp [mvAs, hz])) []
        cases hx1 : x.1 <;> rw [hx1] at this <;> first | exact this | (simpa [nilA, nilL, nilC] using this)
      · have := clAs_sound (p := p) R hs (show s.clAs cs = some (z.1, z.2) from hz) (q := q + 1) (ts := []) hr2 (fun z hz => ht z (by simp [mvAs, hz]))
        cases hz1 : z.1 <;> rw [hz1] at this <;> exact this
    | cons t ts =>
      exact ⟨y, ys, rfl, clA_sound R hs (show s.clA c = some (x.1, x.2) from hx) hr1 (t := p ++ [q]) (fun z hz => ht z (by simp [mvAs, hz])) _,
        clAs_sound (p := p) R hs (show s.clAs cs = some (z.1, z.2) from hz) (q := q + 1) (ts := ts) hr2 (fun z hz => ht z (by simp [mvAs, hz]))⟩

theorem asrdA_rep {C : Cx} {c : AV} {y : Value} (h : Rep C true (.read .ent) c y) : Rep C false (.read .ent) (asrdA c) y := rep_asrd h
theorem wf_mono {O : Nat → List Nat} {k n : Nat} (hk : k ≤ n) : ∀ {c : Code}, wfCode O k c = true → wfCode O n c = true
  | .region i ops d, h => by
    simp only [wfCode, Bool.and_eq_true] at h ⊢
    refine ⟨?_, h.2⟩
    unfold wfOps at *
    rw [Array.all_eq_true'] at *
    intro o ho
    have := h.1 o ho
    cases hd : o.dst with
    | none => rfl
    | some d =>
      rw [hd] at this
      have h1 : d < k := by simpa using this
      show decide (d < n) = true
      simpa using Nat.lt_of_lt_of_le h1 hk
  | .seq a b, h => by simp only [wfCode, Bool.and_eq_true] at h ⊢; exact ⟨wf_mono hk h.1, wf_mono hk h.2⟩
  | .cond _ a b, h => by simp only [wfCode, Bool.and_eq_true] at h ⊢; exact ⟨wf_mono hk h.1, wf_mono hk h.2⟩
  | .block _ c, h => by simp only [wfCode] at h ⊢; exact wf_mono hk h
  | .loop c, h => by simp only [wfCode] at h ⊢; exact wf_mono hk h
  | .skip, _ => rfl
  | .exit _, _ => rfl
  | .ret, _ => rfl
end
/-- HOW A FUNCTION'S CONTRACT IS SHOWN. -/
theorem Meets.introO {P : Program} {f : FuncId} {args : List AV} {post : AV → Prop} {fn : Func} {c : Code} (hm : P.follows .mixedOrders = true) (H : Nat → Nat) (O : Nat → List Nat) (hf : P.funcs[f]? = some fn) (hb : fn.body = some c) (hn : (fn.name != "runtime.NumGoroutine") = true)
    {rs : List ResultVar} {ts : List TypeId} (hr : fn.results.toList = rs) (ht : fn.resultTypes.toList = ts)
    (hw : wfCode O fn.ntmps c = true) (h : awp P H O c (St.init args) (RetQ P rs ts post)) : Meets P f args post := by
  refine ⟨by rw [hf]; simp only [hb, hn]; rfl, fun w S F base vals hold hreps => calls_of_wp hf hb ?_⟩
  have hlen : vals.size = args.length := by simpa using hreps.len
  let n := vals.size + (fn.ntmps - vals.size)
  have hR : Rel ⟨w, fun _ => False⟩ S F n (St.init args) { tmps := vals ++ Array.replicate (fn.ntmps - vals.size) undef, defers := [] } w := by
    refine ⟨fun _ => none, fun _ => undef, by simp [n], rfl, fun k => ?_, fun id ob hob => by simp [St.init, initS] at hob, fun b p hb => by simp at hb, fun x y hx => by simp [St.init, initS] at hx, fun b hb h => h.elim (fun h => absurd (hold b hb) (Nat.not_lt_of_le h)) id, Bs.bel.refl _⟩
    show Rep _ false (.read .ent) (initE args k) _
    unfold initE
    split
    · rename_i c hc
      obtain ⟨y, h1, h2⟩ := hreps.at_ hc
      have hk : k < vals.size := by rw [hlen]; exact (List.getElem?_eq_some_iff.1 hc).1
      have h3 : (vals ++ Array.replicate (fn.ntmps - vals.size) undef).getD k undef = y := by
        have : vals[k]? = some y := by simpa using h1
        simp [Array.getD_eq_getD_getElem?, Array.getElem?_append_left hk, this]
      rw [h3]
      have hst : Stays ⟨w, S, F, fun _ => none, fun _ => undef, fun _ => False⟩ (cx w S F (fun _ => none) (fun _ => undef) (St.init args).σ) := ⟨fun b h => ⟨h, rfl⟩, fun b h => ⟨h, rfl⟩⟩
      have htr : Tr ⟨w, S, F, fun _ => none, fun _ => undef, fun _ => False⟩ (cx w S F (fun _ => none) (fun _ => undef) (St.init args).σ) (.read .ent) (.read .ent) := ⟨fun _ => trivial, fun b h => ⟨h, rfl⟩⟩
      exact asrdA_rep (Rep.tr hst htr _ _ h2)
    · trivial
  refine awp_sound hm c (wf_mono (by omega) hw) hR h fun e s a w' hR he => ?_
  obtain ⟨L, m, R⟩ := hR
  have fin : retE P rs ts s post → a.defers = [] ∧ ∃ v, (results fn a.tmps).run P w' = .ok v w' ∧ ∃ r v' L, post r ∧ Ending.returned v = .returned v' ∧ Rep ⟨w', S, F, L, fun _ => undef, fun _ => False⟩ true (.own base) r v' ∧
      (∀ b p, L b = some p → w.heap.size ≤ b ∧ b < w'.heap.size) ∧ Below w.heap.size w w' := fun he => by
    refine ⟨R.defers, ?_⟩
    obtain ⟨l, hl, h1⟩ := onSome.elim he
    obtain ⟨⟨vs', I⟩, hcl, hind, hpost⟩ := onSome.elim h1
    obtain ⟨vs, hrun, hvl, hreps'⟩ := ret_vals R (fun | .tmp t => Pure.pure (a.tmps.getD t undef) | .cell x t => do loadVar t (← asAddr (a.tmps.getD x undef))) (fun _ => rfl) (fun _ _ => rfl) hl
    have hres : (results fn a.tmps).run P w' = .ok (if h : vs.toArray.size = 1 then vs.toArray[0] else .tuple vs.toArray) w' := by
      unfold results
      rw [show fn.results = rs.toArray by rw [← hr], List.mapM_toArray]
      simp only [Sem.run_bind, Sem.run_map]
      erw [hrun]
      rfl
    have labs : ∀ (ρ : Id → Id) b p, (L b).map ρ = some p → w.heap.size ≤ b ∧ b < w'.heap.size := fun ρ b p hb => by
      obtain ⟨p', hp', _⟩ := Option.map_eq_some_iff.1 hb
      exact ⟨(R.lab b p' hp').1.elim id False.elim, (R.lab b p' hp').2⟩
    have bel := R.below.below (fun _ h => h)
    have htr : ∀ (mv : List (Id × Id)), indep (mv.map (·.1)) = true → ∀ x ∈ mv, Tr (cx w' S F L m s.σ) ⟨w', S, F, fun b => (L b).map (mvL mv), fun _ => undef, fun _ => False⟩ (.own x.1) (.own x.2) := fun mv hi x hx b q hb => ⟨by
      have hb' : L b = some (x.1 ++ q) := hb
      show (L b).map (mvL mv) = some (x.2 ++ q)
      rw [hb', Option.map_some, mvL_in hi hx], rfl⟩
    refine ⟨_, hres, ?_⟩
    match l, vs, hreps' 0, hcl with
    | [c], [v], hrep, hcl =>
      simp only [St.clAs] at hcl
      obtain ⟨x, hx, h⟩ := bindO_eq hcl
      obtain ⟨y, hy, h⟩ := bindO_eq h
      obtain rfl := Option.some.inj hy
      simp only [Option.some.injEq, Prod.mk.injEq, List.append_nil] at h
      obtain ⟨rfl, rfl⟩ := h
      have hmv := clA_mv (show s.clA c = some (x.1, x.2) from hx) base
      refine ⟨_, v, fun b => (L b).map (mvL (mvA s base c)), hpost, rfl, ?_, labs _, bel⟩
      obtain ⟨y, ys, hyy, hr1, _⟩ := hrep
      obtain ⟨rfl, rfl⟩ : v = y ∧ [] = ys := by simpa using hyy
      have := fun t => clA_sound R (C' := ⟨w', S, F, fun b => (L b).map (mvL (mvA s base c)), fun _ => undef, fun _ => False⟩) ⟨fun b h => ⟨h, rfl⟩, fun b h => ⟨h, rfl⟩⟩ (show s.clA c = some (x.1, x.2) from hx) hr1 (t := base) (htr _ (by rw [hmv]; exact hind)) t
      cases ts with
      | nil =>
        show Rep _ true (.own base) x.1 v
        have := this []
        cases hx1 : x.1 <;> rw [hx1] at this <;> first | exact this | (simpa [nilA, nilL, nilC] using this)
      | cons t ts =>
        have e : nilAs P ts ([] : List AV) = [] := by cases ts <;> rfl
        show Rep _ true (.own base) (tupOf (nilA (cty P t) x.1 :: nilAs P ts [])) v
        rw [e]
        exact this _
    | [], vs, hrep, hcl =>
      have hvs : vs = [] := hrep
      subst hvs
      obtain ⟨rfl, rfl⟩ : [] = vs' ∧ [] = I := by simpa [St.clAs] using hcl
      refine ⟨_, _, fun b => (L b).map (mvL []), hpost, rfl, ?_, labs _, bel⟩
      have e : nilAs P ts ([] : List AV) = [] := by cases ts <;> rfl
      rw [e]
      exact ⟨#[], rfl, rfl⟩
    | c :: c2 :: l, vs, hrep, hcl =>
      have hmv := clAs_mv hcl base 0
      refine ⟨_, _, fun b => (L b).map (mvL (mvAs s base 0 (c :: c2 :: l))), hpost, rfl, ?_, labs _, bel⟩
      have hs := clAs_sound (P := P) (p := base) R (C' := ⟨w', S, F, fun b => (L b).map (mvL (mvAs s base 0 (c :: c2 :: l))), fun _ => undef, fun _ => False⟩) ⟨fun b h => ⟨h, rfl⟩, fun b h => ⟨h, rfl⟩⟩ hcl (q := 0) (ts := ts) hrep (htr _ (by rw [hmv]; exact hind))
      have hl2 : vs.length = (c :: c2 :: l).length := hrep.len
      rw [dif_neg (by simp [hl2])]
      have e : ∃ r1 r2 rs', nilAs P ts vs' = r1 :: r2 :: rs' := by
        have := hs.len
        rw [hl2] at this
        match hn : nilAs P ts vs' with
        | [] => rw [hn] at this; simp at this
        | [_] => rw [hn] at this; simp at this
        | r1 :: r2 :: rs' => exact ⟨_, _, _, rfl⟩
      obtain ⟨r1, r2, rs', e⟩ := e
      rw [e] at hs ⊢
      exact ⟨vs.toArray, rfl, hs⟩
  cases e with
  | normal => exact fin he
  | ret => exact fin he
  | exit i => exact False.elim he
theorem Meets.intro {P : Program} {f : FuncId} {args : List AV} {post : AV → Prop} {fn : Func} {c : Code} (hm : P.follows .mixedOrders = true) (H : Nat → Nat) (hf : P.funcs[f]? = some fn) (hb : fn.body = some c) (hn : (fn.name != "runtime.NumGoroutine") = true)
    {rs : List ResultVar} {ts : List TypeId} (hr : fn.results.toList = rs) (ht : fn.resultTypes.toList = ts)
    (hw : wfCode (fun _ => []) fn.ntmps c = true) (h : awp P H (fun _ => []) c (St.init args) (RetQ P rs ts post)) : Meets P f args post :=
  Meets.introO hm H _ hf hb hn hr ht hw h
end Go.Ev
