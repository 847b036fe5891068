/- The evaluator, part 18: how the contract of a function that writes is shown. -/
import Derived.Test.YtijmbcnhkdhkeaaEvm
set_option linter.unusedVariables false
set_option linter.unusedSimpArgs false
namespace Go.Ev
open Go Go.RowKit
section
variable {P : Program} {H : Nat → Nat} {W0 : Bs} {S F : Nat → Prop} {n : Nat} {L : Nat → Option Id} {m : Id → Value} {s : St} {a : Act} {w : World} {K : St → Prop}
theorem RepPs.at_ {C : Cx} : ∀ {ps : List PA} {vs : List Value} {q j : Nat} {p : PA}, RepPs C q ps vs → ps[j]? = some p → ∃ v, vs[j]? = some v ∧ (match p with | .rd c => Rep C true (.read .ent) c v | .mu c => Rep C true (.own [q + j]) c v)
  | [], _, _, _, _, _, h => by simp at h
  | .rd c :: ps, vs, q, 0, p, h, hi => by
    obtain rfl : PA.rd c = p := by simpa using hi
    obtain ⟨y, ys, rfl, h1, _⟩ := h
    exact ⟨y, by simp, h1⟩
  | .mu c :: ps, vs, q, 0, p, h, hi => by
    obtain rfl : PA.mu c = p := by simpa using hi
    obtain ⟨y, ys, rfl, h1, _⟩ := h
    exact ⟨y, by simp, h1⟩
  | .rd c :: ps, vs, q, j + 1, p, h, hi => by
    obtain ⟨y, ys, rfl, _, h2⟩ := h
    obtain ⟨v, g1, g2⟩ := RepPs.at_ (j := j) h2 (by simpa using hi)
    exact ⟨v, by simpa using g1, by rwa [show q + 1 + j = q + (j + 1) by omega] at g2⟩
  | .mu c :: ps, vs, q, j + 1, p, h, hi => by
    obtain ⟨y, ys, rfl, _, h2⟩ := h
    obtain ⟨v, g1, g2⟩ := RepPs.at_ (j := j) h2 (by simpa using hi)
    exact ⟨v, by simpa using g1, by rwa [show q + 1 + j = q + (j + 1) by omega] at g2⟩
theorem RepPs.len {C : Cx} : ∀ {ps : List PA} {vs : List Value} {q : Nat}, RepPs C q ps vs → vs.length = ps.length
  | [], _, _, h => by rw [show _ = [] from h]; rfl
  | .rd c :: ps, vs, q, h => by obtain ⟨y, ys, rfl, _, h2⟩ := h; simp [RepPs.len h2]
  | .mu c :: ps, vs, q, h => by obtain ⟨y, ys, rfl, _, h2⟩ := h; simp [RepPs.len h2]
theorem objsM_mem {vals : Nat → Value} {x : Id × OB} : ∀ {ps : List PA} {q : Nat}, x ∈ objsM vals q ps → ∃ (j : Nat) (c : AV), ps[j]? = some (.mu c) ∧ (x ∈ (opnB [1000000] (q + j) c).2 ∨ x = ([1000001, q + j], .pin (opnB [1000000] (q + j) c).1 (vals (q + j))))
  | [], q, h => by simp [objsM] at h
  | .rd c :: ps, q, h => by
    obtain ⟨j, c', h1, h2⟩ := objsM_mem (ps := ps) (q := q + 1) h
    exact ⟨j + 1, c', by simpa using h1, by rwa [show q + 1 + j = q + (j + 1) by omega] at h2⟩
  | .mu c :: ps, q, h => by
    simp only [objsM, List.mem_append, List.mem_cons] at h
    rcases h with h | h | h
    · exact ⟨0, c, rfl, .inl h⟩
    · exact ⟨0, c, rfl, .inr h⟩
    · obtain ⟨j, c', h1, h2⟩ := objsM_mem (ps := ps) (q := q + 1) h
      exact ⟨j + 1, c', by simpa using h1, by rwa [show q + 1 + j = q + (j + 1) by omega] at h2⟩
theorem objsM_of {vals : Nat → Value} {x : Id × OB} : ∀ {ps : List PA} {q j : Nat} {c : AV}, ps[j]? = some (.mu c) → x ∈ (opnB [1000000] (q + j) c).2 → x ∈ objsM vals q ps
  | [], _, _, _, h, _ => by simp at h
  | .rd c :: ps, q, 0, _, h, _ => by simp at h
  | .mu c :: ps, q, 0, _, h, hx => by
    obtain rfl : c = _ := by simpa using h
    simp [objsM, show x ∈ (opnB [1000000] q c).2 from hx]
  | .rd c :: ps, q, j + 1, c', h, hx => by
    exact objsM_of (ps := ps) (q := q + 1) (j := j) (c := c') (by simpa using h) (by rwa [show q + 1 + j = q + (j + 1) by omega])
  | .mu c :: ps, q, j + 1, c', h, hx => by
    have := objsM_of (vals := vals) (ps := ps) (q := q + 1) (j := j) (c := c') (by simpa using h) (by rwa [show q + 1 + j = q + (j + 1) by omega])
    simp [objsM, this]
/-! what is given back -/
def mvTC (s : St) (t : Id) : AV → List (Id × Id)
  | .ref id => (match s.σ id with | some (.row ..) => [(id, t)] | _ => [])
  | _ => []
def mvTL (s : St) (t : Id) : Nat → List AV → List (Id × Id)
  | _, [] => []
  | q, c :: cs => mvTC s (t ++ [q]) c ++ mvTL s t (q + 1) cs
def mvTA (s : St) (t : Id) : AV → List (Id × Id)
  | .agg cs => mvTL s t 0 cs
  | .ptr id _ 0 0 => (match s.σ id with | some (.box _ cs) => (match s.clL cs with | some _ => (id, t ++ [0]) :: mvCs (t ++ [1]) 0 cs | none => []) | _ => [])
  | a => mvTC s t a
def mvTs (s : St) (t : Id) : Nat → List PA → List (Id × Id)
  | _, [] => []
  | q, .rd _ :: ps => mvTs s t (q + 1) ps
  | q, .mu _ :: ps => mvTA s (t ++ [q]) (pinOf (s.σ [1000001, q])) ++ mvTs s t (q + 1) ps
theorem clC_none {c : AV} {x : AV × List Id} (h : s.clC c = some x) (hr : ∀ id, c ≠ .ref id) : x.2 = [] := by
  have := clC_mv (show s.clC c = some (x.1, x.2) from h) []
  cases c <;> first | exact absurd rfl (hr _) | (simp [mvC] at this; exact this)
theorem clTC_mv (t : Id) : ∀ c : AV, (mvTC s t c).map (·.1) = (s.clTC c).2
  | .ref id => by
    cases h : s.σ id with
    | none => simp [mvTC, St.clTC, rowT, h]
    | some ob => cases ob <;> simp [mvTC, St.clTC, rowT, h]
  | .any => rfl
  | .v u => by
    show [] = (getO (s.clC (.v u)) (.any, [])).2
    cases h : s.clC (.v u) with
    | none => rfl
    | some x => exact (clC_none h (by simp)).symm
  | .row .. => rfl
  | .rd o e sz els => by
    show [] = (getO (s.clC (.rd o e sz els)) (.any, [])).2
    cases h : s.clC (.rd o e sz els) with
    | none => rfl
    | some x => exact (clC_none h (by simp)).symm
  | .rp .. => rfl
  | .ptr .. => rfl
  | .agg .. => rfl
  | .tup .. => rfl
  | .bx .. => rfl
  | .ifc t' a => by
    show [] = (getO (s.clC (.ifc t' a)) (.any, [])).2
    cases h : s.clC (.ifc t' a) with
    | none => rfl
    | some x => exact (clC_none h (by simp)).symm
  | .fn f cs => by
    show [] = (getO (s.clC (.fn f cs)) (.any, [])).2
    cases h : s.clC (.fn f cs) with
    | none => rfl
    | some x => exact (clC_none h (by simp)).symm
theorem clTL_mv (t : Id) : ∀ (cs : List AV) (q : Nat), (mvTL s t q cs).map (·.1) = (s.clTL cs).2
  | [], _ => rfl
  | c :: cs, q => by rw [mvTL, List.map_append, clTC_mv, clTL_mv t cs (q + 1)]; rfl
theorem clT_mv (t : Id) (ts : List (Option (Nat × Nat))) : ∀ c : AV, (mvTA s t c).map (·.1) = (s.clT P ts c).2
  | .agg cs => clTL_mv t cs 0
  | .ptr id sz i k => by
    unfold mvTA St.clT
    split
    · rename_i e; cases e
    · rename_i e
      injection e with e1 e2 e3 e4
      subst e1; subst e3; subst e4
      simp only []
      unfold boxT
      cases h : s.σ id with
      | none => rfl
      | some ob =>
        cases ob with
        | box tt cs =>
          simp only []
          cases h2 : s.clL cs with
          | none => rfl
          | some x =>
            have := clL_mv (show s.clL cs = some (x.1, x.2) from h2) (t ++ [1]) 0
            simp [getO, bindO, this]
        | _ => rfl
    · rename_i h1 h2
      split
      · rename_i e; cases e
      · rename_i e
        injection e with e1 e2 e3 e4
        subst e1; subst e3; subst e4
        exact absurd rfl (h2 _ _)
      · exact clTC_mv t _
  | .any => clTC_mv (s := s) t (.any)
  | .v u => clTC_mv (s := s) t (.v u)
  | .row e z l => clTC_mv (s := s) t (.row e z l)
  | .rd o e z l => clTC_mv (s := s) t (.rd o e z l)
  | .rp o e z l i k => clTC_mv (s := s) t (.rp o e z l i k)
  | .ref i => clTC_mv (s := s) t (.ref i)
  | .tup l => clTC_mv (s := s) t (.tup l)
  | .bx e l => clTC_mv (s := s) t (.bx e l)
  | .ifc e b => clTC_mv (s := s) t (.ifc e b)
  | .fn e l => clTC_mv (s := s) t (.fn e l)
theorem clTs_mv (t : Id) : ∀ (ps : List PA) (ts : List TypeId) (q : Nat), ps.length = ts.length → (mvTs s t q ps).map (·.1) = (s.clTs P q ps ts).2
  | [], ts, q, _ => by cases ts <;> rfl
  | .rd _ :: ps, [], q, h => by simp at h
  | .mu _ :: ps, [], q, h => by simp at h
  | .rd _ :: ps, _ :: ts, q, h => clTs_mv t ps ts (q + 1) (by simpa using h)
  | .mu _ :: ps, t' :: ts, q, h => by
    rw [mvTs, List.map_append, clT_mv (P := P) _ (cty P t'), clTs_mv t ps ts (q + 1) (by simpa using h)]; rfl
theorem clTC_sound (R : RelC W0 S F n L m s a w) {C' : Cx} (hs : Stays (cx w S F L m s.σ) C') {c : AV} {y : Value} (hr : Rep (cx w S F L m s.σ) false (.read .ent) c y) {t : Id}
    (htr : ∀ x ∈ mvTC s t c, Tr (cx w S F L m s.σ) C' (.own x.1) (.own x.2)) : Rep C' true (.own t) (s.clTC c).1 y := by
  have plain : (∀ id, c ≠ .ref id) → s.clTC c = getO (s.clC c) (.any, []) → Rep C' true (.own t) (s.clTC c).1 y := fun hc e => by
    rw [e]
    cases h : s.clC c with
    | none => trivial
    | some x => exact (clC_sound R hs (show s.clC c = some (x.1, x.2) from h) hr (fun z hz => by
        have := clC_mv (show s.clC c = some (x.1, x.2) from h) t
        rw [clC_none h hc] at this
        rw [List.map_eq_nil_iff] at this
        rw [this] at hz; simp at hz)).1
  cases c with
  | ref id =>
    show Rep C' true (.own t) (rowT id (s.σ id)).1 y
    unfold rowT
    split
    · rename_i e sz els hob
      rw [show y = m id from hr.2.2.2]
      exact Rep.tr hs (htr (id, t) (by simp [mvTC, hob])) _ _ (R.obj id _ hob)
    · trivial
  | _ => exact plain (by simp) rfl
theorem clTL_sound (R : RelC W0 S F n L m s a w) {C' : Cx} (hs : Stays (cx w S F L m s.σ) C') {t : Id} : ∀ {cs : List AV} {vs : List Value} {q q' : Nat}, RepVs (cx w S F L m s.σ) false (.read .ent) q' cs vs → (∀ x ∈ mvTL s t q cs, Tr (cx w S F L m s.σ) C' (.own x.1) (.own x.2)) → ∀ ts, RepVs C' true (.own t) q (nilL ts (s.clTL cs).1) vs
  | [], vs, q, q', hr, _, ts => by cases ts <;> exact hr
  | c :: cs, vs, q, q', hr, htr, ts => by
    obtain ⟨y, ys, rfl, h1, h2⟩ := hr
    have g1 := clTC_sound R hs h1 (t := t ++ [q]) (fun x hx => htr x (by simp [mvTL, hx]))
    cases ts with
    | nil =>
      have := clTL_sound R hs (t := t) (q := q + 1) h2 (fun x hx => htr x (by simp [mvTL, hx])) []
      refine ⟨y, ys, rfl, g1, ?_⟩
      simpa [nilL] using this
    | cons ty ts => exact ⟨y, ys, rfl, rep_nilC g1 ty, clTL_sound R hs (t := t) (q := q + 1) h2 (fun x hx => htr x (by simp [mvTL, hx])) ts⟩
theorem clT_sound (R : RelC W0 S F n L m s a w) {C' : Cx} (hs : Stays (cx w S F L m s.σ) C') {c : AV} {y : Value} (hr : Rep (cx w S F L m s.σ) false (.read .ent) c y) {t : Id}
    (htr : ∀ x ∈ mvTA s t c, Tr (cx w S F L m s.σ) C' (.own x.1) (.own x.2)) (ts : List (Option (Nat × Nat))) : Rep C' true (.own t) (s.clT P ts c).1 y := by
  have plain : s.clT P ts c = (nilC (ts.headD none) (s.clTC c).1, (s.clTC c).2) → mvTA s t c = mvTC s t c → Rep C' true (.own t) (s.clT P ts c).1 y := fun e e' => by
    rw [e]
    exact rep_nilC (clTC_sound R hs hr (by rw [← e']; exact htr)) _
  cases c with
  | agg cs =>
    obtain ⟨vs, rfl, hr⟩ := hr
    exact ⟨vs, rfl, clTL_sound R hs hr htr ts⟩
  | ptr id sz i k =>
    by_cases hik : i = 0 ∧ k = 0
    · obtain ⟨rfl, rfl⟩ := hik
      show Rep C' true (.own t) (boxT P s id (s.σ id)).1 y
      unfold boxT
      cases hob : s.σ id with
      | none => trivial
      | some ob =>
        cases ob with
        | box tt cs =>
          simp only []
          cases hcl : s.clL cs with
          | none => trivial
          | some x =>
            simp only [mvTA, hob, hcl] at htr
            obtain ⟨g, arr, h1, h2, h3, h4, h5⟩ := R.obj id _ hob
            obtain ⟨_, _, g', off, h6, rfl⟩ := hr
            rw [h1] at h6
            simp only [hdrAddr, Option.some.injEq, Addr.mk.injEq] at h6
            obtain ⟨rfl, rfl, _⟩ := h6
            have ht := (htr (id, t ++ [0]) (by simp)) g [] (by simpa using h2)
            have hcell : ∀ o, C'.w.cell? ⟨g, o, none⟩ = w.cell? ⟨g, o, none⟩ := fun o => cell_same ht.2 o
            obtain ⟨vs, g1, g2⟩ := h5.cells
            have hreps : RepVs (cx w S F L m s.σ) false (.read .ent) 0 cs vs := RepVs.of g1 fun j c hc => by
              obtain ⟨y, k1, _, k3⟩ := h5.at_ hc
              have hj : j < vs.length := by rw [g1]; exact (List.getElem?_eq_some_iff.1 hc).1
              have h7 : vs[j]? = some vs[j] := List.getElem?_eq_getElem hj
              have h8 := (g2 j _ h7).1
              rw [k1] at h8
              exact ⟨y, by rw [h7, h8], k3⟩
            obtain ⟨k1, k2, k3, k4⟩ := clL_sound (p := t ++ [1]) R hs (show s.clL cs = some (x.1, x.2) from hcl) (q := 0) hreps (fun x hx => htr x (by simp [hx]))
            show Rep C' true (.own t) (.bx tt (nilL (cty P tt) x.1)) _
            refine ⟨g, arr, by simp, by simpa using ht.1, ht.2.trans h3, by rw [nilL_length, k1]; exact h4, RepCs.of fun j c hc => ?_⟩
            obtain ⟨ty, u, h7, rfl⟩ := nilL_at hc
            obtain ⟨y, h8, h9⟩ := k4 j u h7
            exact ⟨y, (hcell _).trans (g2 j y h8).1, k3 y (List.mem_of_getElem? h8), rep_nilC h9 ty⟩
        | _ => trivial
    · refine plain ?_ ?_
      · unfold St.clT
        split
        · rename_i e; cases e
        · rename_i e; injection e with e1 e2 e3 e4; exact absurd ⟨e3, e4⟩ hik
        · rfl
      · unfold mvTA
        split
        · rename_i e; cases e
        · rename_i e; injection e with e1 e2 e3 e4; exact absurd ⟨e3, e4⟩ hik
        · rfl
  | _ => exact plain rfl rfl
theorem clTs_sound (R : RelC W0 S F n L m s a w) {C' : Cx} (hs : Stays (cx w S F L m s.σ) C') {t : Id} {vals : Nat → Value} : ∀ {ps : List PA} {ts : List TypeId} {vs : List Value} {q : Nat}, ps.length = ts.length → vs.length = ps.length → (∀ (j : Nat) v, vs[j]? = some v → vals (q + j) = v) → pinsE s vals q ps → (∀ x ∈ mvTs s t q ps, Tr (cx w S F L m s.σ) C' (.own x.1) (.own x.2)) → RepVs C' true (.own t) q (s.clTs P q ps ts).1 vs
  | [], ts, vs, q, _, hv, _, _, _ => by
    obtain rfl : vs = [] := by cases vs with | nil => rfl | cons => simp at hv
    cases ts <;> rfl
  | .rd _ :: ps, [], _, _, h, _, _, _, _ => by simp at h
  | .mu _ :: ps, [], _, _, h, _, _, _, _ => by simp at h
  | _ :: _, _ :: _, [], _, _, h, _, _, _ => by simp at h
  | .rd _ :: ps, _ :: ts, v :: vs, q, hl, hv, hval, hpin, htr =>
    ⟨v, vs, rfl, trivial, clTs_sound R hs (by simpa using hl) (by simpa using hv) (fun j u hj => by have := hval (j + 1) u (by simpa using hj); rwa [show q + (j + 1) = q + 1 + j by omega] at this) hpin htr⟩
  | .mu _ :: ps, t' :: ts, v :: vs, q, hl, hv, hval, hpin, htr => by
    refine ⟨v, vs, rfl, ?_, clTs_sound R hs (by simpa using hl) (by simpa using hv) (fun j u hj => by have := hval (j + 1) u (by simpa using hj); rwa [show q + (j + 1) = q + 1 + j by omega] at this) hpin.2 (fun x hx => htr x (by simp [mvTs, hx]))⟩
    have h0 : vals q = v := by simpa using hval 0 v (by simp)
    have hp := hpin.1
    refine clT_sound (P := P) R hs ?_ (t := t ++ [q]) (fun x hx => htr x (by simp [mvTs, hx])) (cty P t')
    cases hob : s.σ [1000001, q] with
    | none => trivial
    | some ob =>
      cases ob with
      | pin c x =>
        rw [hob] at hp
        have hp : x = vals q := hp
        have := R.obj _ _ hob
        rw [← h0, ← hp]
        exact this
      | _ => trivial
end
/-- HOW THE CONTRACT OF A FUNCTION THAT WRITES IS SHOWN. -/
theorem MeetsM.introO {P : Program} {f : FuncId} {args : List PA} {post : AV → List AV → Prop} {fn : Func} {c : Code} (hm : P.follows .mixedOrders = true) (H : Nat → Nat) (O : Nat → List Nat) (hf : P.funcs[f]? = some fn) (hb : fn.body = some c) (hn : (fn.name != "runtime.NumGoroutine") = true)
    {rs : List ResultVar} {ts pts : List TypeId} (hr : fn.results.toList = rs) (ht : fn.resultTypes.toList = ts) (hp : args.length = pts.length)
    (hw : wfCode O fn.ntmps c = true) (h : ∀ vals : Nat → Value, awp P H O c (St.initM vals args) (RetQM P rs ts pts vals args post)) : MeetsM P f args post := by
  refine ⟨by rw [hf]; simp only [hb, hn]; rfl, fun w S F L0 base vals hold hL0 hreps => calls_of_wp hf hb ?_⟩
  have hlen : vals.size = args.length := by simpa using hreps.len
  let n := vals.size + (fn.ntmps - vals.size)
  let vf : Nat → Value := fun q => vals.getD q undef
  let B : Bs := ⟨w, fun b => L0 b ≠ none⟩
  let L : Nat → Option Id := fun b => (L0 b).map (1000000 :: ·)
  let m : Id → Value := fun id => match id with | 1000000 :: q :: p => nav w p (vf q) | _ => undef
  have hvf : ∀ (q : Nat) v, vals.toList[q]? = some v → vf q = v := fun q v hq => by
    have : vals[q]? = some v := by simpa using hq
    simp [vf, Array.getD_eq_getD_getElem?, this]
  have hst : Stays ⟨w, S, F, L0, fun _ => undef, fun _ => False⟩ (cx w S F L m (St.initM vf args).σ) := ⟨fun b h => ⟨h, rfl⟩, fun b h => ⟨h, rfl⟩⟩
  have htr : ∀ q, Tr ⟨w, S, F, L0, fun _ => undef, fun _ => False⟩ (cx w S F L m (St.initM vf args).σ) (.own [q]) (.own ([1000000] ++ [q])) := fun q b r hb => ⟨by
    show (L0 b).map (1000000 :: ·) = _
    rw [show L0 b = some ([q] ++ r) from hb]; rfl, rfl⟩
  have harg : ∀ (q : Nat) (c : AV), args[q]? = some (.mu c) → Rep (cx w S F L m (St.initM vf args).σ) false (.read .ent) (opnB [1000000] q c).1 (vf q) ∧ ∀ x ∈ (opnB [1000000] q c).2, RepOb (cx w S F L m (St.initM vf args).σ) x.1 x.2 := fun q c hq => by
    obtain ⟨v, h1, h2⟩ := hreps.at_ hq
    simp only [Nat.zero_add] at h2
    rw [hvf q v h1]
    refine opnB_sound (Rep.tr hst (htr q) _ _ h2) (fun p => ?_) (fun x hx => updL_live (.inr ⟨x.2, objsM_of (q := 0) (j := q) hq (by simpa using hx)⟩))
    show nav w p (vf q) = nav w p v
    rw [hvf q v h1]
  have hR : Rel B S F n (St.initM vf args) { tmps := vals ++ Array.replicate (fn.ntmps - vals.size) undef, defers := [] } w := by
    refine ⟨L, m, by simp [n], rfl, fun k => ?_, fun id ob hob => ?_, fun b p hb => ?_, fun x y hx hy hc => ?_, fun b hb h => ?_, Bs.bel.refl _⟩
    · show Rep _ false (.read .ent) (initEM args k) _
      have hget : ∀ v, vals.toList[k]? = some v → (vals ++ Array.replicate (fn.ntmps - vals.size) undef).getD k undef = v := fun v hv => by
        have hk : vals[k]? = some v := by simpa using hv
        have hk' : k < vals.size := (Array.getElem?_eq_some_iff.1 hk).1
        simp [Array.getD_eq_getD_getElem?, Array.getElem?_append_left hk', hk]
      unfold initEM
      split
      · rename_i c hc
        obtain ⟨v, h1, h2⟩ := hreps.at_ hc
        rw [hget v h1]
        exact rep_asrd (Rep.tr hst (show Tr _ _ (.read .ent) (.read .ent) from ⟨fun _ => trivial, fun b h => ⟨h, rfl⟩⟩) _ _ h2)
      · rename_i c hc
        obtain ⟨v, h1, _⟩ := hreps.at_ hc
        rw [hget v h1, ← hvf k v h1]
        exact (harg k c hc).1
      · trivial
    · rcases updL_some (show updL initS (objsM vf 0 args) id = some ob from hob) with h1 | ⟨h1, _⟩
      · obtain ⟨j, c, hj, h2⟩ := objsM_mem h1
        rw [Nat.zero_add] at h2
        rcases h2 with h2 | h2
        · exact (harg j c hj).2 _ h2
        · injection h2 with e1 e2
          subst e1; subst e2
          exact (harg j c hj).1
      · simp [initS] at h1
    · cases hL : L0 b with
      | none => have hb' : (L0 b).map (1000000 :: ·) = some p := hb; rw [hL] at hb'; cases hb'
      | some q => exact ⟨.inr (by show L0 b ≠ none; rw [hL]; simp), hL0 b q hL⟩
    · obtain ⟨o1, h1⟩ := Option.isSome_iff_exists.1 hx
      obtain ⟨o2, h2⟩ := Option.isSome_iff_exists.1 hy
      rcases updL_some (show updL initS (objsM vf 0 args) x = some o1 from h1) with h1 | ⟨h1, _⟩
      · rcases updL_some (show updL initS (objsM vf 0 args) y = some o2 from h2) with h2 | ⟨h2, _⟩
        · obtain ⟨j, c, hj, g1⟩ := objsM_mem h1
          obtain ⟨j', c', hj', g2⟩ := objsM_mem h2
          simp only [Nat.zero_add] at g1 g2
          have key : ∀ (x : Id) (o : OB), (x, o) ∈ (opnB [1000000] j c).2 ∨ (x, o) = ([1000001, j], .pin (opnB [1000000] j c).1 (vf j)) → (∃ r, x = 1000000 :: j :: r ∧ (x, o) ∈ (opnB [1000000] j c).2) ∨ x = [1000001, j] := fun x o h => by
            rcases h with h | h
            · obtain ⟨r, hr⟩ := opnB_key _ h
              exact .inl ⟨r, by simpa using hr, h⟩
            · injection h with e1; exact .inr e1
          have key' : ∀ (x : Id) (o : OB), (x, o) ∈ (opnB [1000000] j' c').2 ∨ (x, o) = ([1000001, j'], .pin (opnB [1000000] j' c').1 (vf j')) → (∃ r, x = 1000000 :: j' :: r ∧ (x, o) ∈ (opnB [1000000] j' c').2) ∨ x = [1000001, j'] := fun x o h => by
            rcases h with h | h
            · obtain ⟨r, hr⟩ := opnB_key _ h
              exact .inl ⟨r, by simpa using hr, h⟩
            · injection h with e1; exact .inr e1
          rcases key x o1 g1 with ⟨r, hx', hm1⟩ | hx' <;> rcases key' y o2 g2 with ⟨r', hy', hm2⟩ | hy'
          · have hjj : j = j' := by
              rw [hx', hy'] at hc
              exact (cmp_cons (p := [1000000]) (k := j) (k' := j') (r := r) (r' := r') (by simpa using hc)).1
            subst hjj
            rw [hj] at hj'
            injection hj' with hj'
            injection hj' with hj'
            subst hj'
            exact opnB_ind _ hm1 _ hm2 hc
          · rw [hx', hy'] at hc
            have := (cmp_cons (p := []) (k := 1000000) (k' := 1000001) (r := j :: r) (r' := [j']) (by simpa using hc)).1
            omega
          · rw [hx', hy'] at hc
            have := (cmp_cons (p := []) (k := 1000001) (k' := 1000000) (r := [j]) (r' := j' :: r') (by simpa using hc)).1
            omega
          · rw [hx', hy'] at hc ⊢
            have := (cmp_cons (p := [1000001]) (k := j) (k' := j') (r := []) (r' := []) (by simpa using hc)).1
            rw [this]
        · simp [initS] at h2
      · simp [initS] at h1
    · rcases h with h | h
      · exact absurd (hold b hb).1 (Nat.not_lt_of_le h)
      · exact h (hold b hb).2
  refine awp_sound hm c (wf_mono (by omega) hw) hR (h vf) fun e s a w' hR he => ?_
  obtain ⟨L', m', R⟩ := hR
  have fin : retEM P rs ts pts vf args s post → a.defers = [] ∧ ∃ v, (results fn a.tmps).run P w' = .ok v w' ∧ ∃ r as v' Lr, post r as ∧ Ending.returned v = .returned v' ∧ Rep ⟨w', S, F, Lr, fun _ => undef, fun _ => False⟩ true (.own (base ++ [0])) r v' ∧
      RepVs ⟨w', S, F, Lr, fun _ => undef, fun _ => False⟩ true (.own (base ++ [1])) 0 as vals.toList ∧ (∀ b p, Lr b = some p → (w.heap.size ≤ b ∨ L0 b ≠ none) ∧ b < w'.heap.size) ∧ Bs.bel ⟨w, fun b => L0 b ≠ none⟩ w' := fun he => by
    refine ⟨R.defers, ?_⟩
    obtain ⟨l, hl, h1⟩ := onSome.elim he
    obtain ⟨⟨vs', I⟩, hcl, ⟨hind, hpins⟩, hpost⟩ := onSome.elim h1
    obtain ⟨vs, hrun, hvl, hreps'⟩ := ret_vals R (fun | .tmp t => Pure.pure (a.tmps.getD t undef) | .cell x t => do loadVar t (← asAddr (a.tmps.getD x undef))) (fun _ => rfl) (fun _ _ => rfl) hl
    have hres : (results fn a.tmps).run P w' = .ok (if h : vs.toArray.size = 1 then vs.toArray[0] else .tuple vs.toArray) w' := by
      unfold results
      rw [show fn.results = rs.toArray by rw [← hr], List.mapM_toArray]
      simp only [Sem.run_bind, Sem.run_map]
      erw [hrun]
      rfl
    have labs : ∀ (ρ : Id → Id) b p, (L' b).map ρ = some p → (w.heap.size ≤ b ∨ L0 b ≠ none) ∧ b < w'.heap.size := fun ρ b p hb => by
      obtain ⟨p', hp', _⟩ := Option.map_eq_some_iff.1 hb
      exact R.lab b p' hp'
    have htr : ∀ (mv : List (Id × Id)), indep (mv.map (·.1)) = true → ∀ x ∈ mv, Tr (cx w' S F L' m' s.σ) ⟨w', S, F, fun b => (L' b).map (mvL mv), fun _ => undef, fun _ => False⟩ (.own x.1) (.own x.2) := fun mv hi x hx b q hb => ⟨by
      have hb' : L' b = some (x.1 ++ q) := hb
      show (L' b).map (mvL mv) = some (x.2 ++ q)
      rw [hb', Option.map_some, mvL_in hi hx], rfl⟩
    have hstf : ∀ mv : List (Id × Id), Stays (cx w' S F L' m' s.σ) ⟨w', S, F, fun b => (L' b).map (mvL mv), fun _ => undef, fun _ => False⟩ := fun mv => ⟨fun b h => ⟨h, rfl⟩, fun b h => ⟨h, rfl⟩⟩
    have hmt := clTs_mv (P := P) (s := s) (base ++ [1]) args pts 0 hp
    have hback : ∀ mvR : List (Id × Id), indep ((mvR ++ mvTs s (base ++ [1]) 0 args).map (·.1)) = true → RepVs ⟨w', S, F, fun b => (L' b).map (mvL (mvR ++ mvTs s (base ++ [1]) 0 args)), fun _ => undef, fun _ => False⟩ true (.own (base ++ [1])) 0 (s.clTs P 0 args pts).1 vals.toList := fun mvR hi =>
      clTs_sound R (hstf _) hp (by simpa using hlen) (fun j v hj => by rw [Nat.zero_add]; exact hvf j v hj) hpins (fun x hx => htr _ hi x (List.mem_append.2 (.inr hx)))
    refine ⟨_, hres, ?_⟩
    match l, vs, hreps' 0, hcl with
    | [c], [v], hrep, hcl =>
      simp only [St.clAs] at hcl
      obtain ⟨x, hx, h⟩ := bindO_eq hcl
      obtain ⟨y, hy, h⟩ := bindO_eq h
      obtain rfl := Option.some.inj hy
      simp only [Option.some.injEq, Prod.mk.injEq, List.append_nil] at h
      obtain ⟨rfl, rfl⟩ := h
      have hmv := clA_mv (show s.clA c = some (x.1, x.2) from hx) (base ++ [0])
      have hi : indep ((mvA s (base ++ [0]) c ++ mvTs s (base ++ [1]) 0 args).map (·.1)) = true := by rw [List.map_append, hmv, hmt]; exact hind
      refine ⟨_, _, v, fun b => (L' b).map (mvL (mvA s (base ++ [0]) c ++ mvTs s (base ++ [1]) 0 args)), hpost, rfl, ?_, hback (mvA s (base ++ [0]) c) hi, labs _, R.below⟩
      obtain ⟨y, ys, hyy, hr1, _⟩ := hrep
      obtain ⟨rfl, rfl⟩ : v = y ∧ [] = ys := by simpa using hyy
      have := fun t => clA_sound R (hstf (mvA s (base ++ [0]) c ++ mvTs s (base ++ [1]) 0 args)) (show s.clA c = some (x.1, x.2) from hx) hr1 (t := base ++ [0]) (fun z hz => htr _ hi z (List.mem_append.2 (.inl hz))) t
      cases ts with
      | nil =>
        show Rep _ true (.own (base ++ [0])) x.1 v
        have := this []
        cases hx1 : x.1 <;> rw [hx1] at this <;> first | exact this | (simpa [nilA, nilL, nilC] using this)
      | cons t ts =>
        have e : nilAs P ts ([] : List AV) = [] := by cases ts <;> rfl
        show Rep _ true (.own (base ++ [0])) (tupOf (nilA (cty P t) x.1 :: nilAs P ts [])) v
        rw [e]
        exact this _
    | [], vs, hrep, hcl =>
      have hvs : vs = [] := hrep
      subst hvs
      obtain ⟨rfl, rfl⟩ : [] = vs' ∧ [] = I := by simpa [St.clAs] using hcl
      have hi : indep ((([] : List (Id × Id)) ++ mvTs s (base ++ [1]) 0 args).map (·.1)) = true := by rw [List.map_append, hmt]; exact hind
      refine ⟨_, _, _, fun b => (L' b).map (mvL ([] ++ mvTs s (base ++ [1]) 0 args)), hpost, rfl, ?_, hback _ hi, labs _, R.below⟩
      have e : nilAs P ts ([] : List AV) = [] := by cases ts <;> rfl
      rw [e]
      exact ⟨#[], rfl, rfl⟩
    | c :: c2 :: l, vs, hrep, hcl =>
      have hmv := clAs_mv hcl (base ++ [0]) 0
      have hi : indep ((mvAs s (base ++ [0]) 0 (c :: c2 :: l) ++ mvTs s (base ++ [1]) 0 args).map (·.1)) = true := by rw [List.map_append, hmv, hmt]; exact hind
      refine ⟨_, _, _, fun b => (L' b).map (mvL (mvAs s (base ++ [0]) 0 (c :: c2 :: l) ++ mvTs s (base ++ [1]) 0 args)), hpost, rfl, ?_, hback _ hi, labs _, R.below⟩
      have hs := clAs_sound (P := P) (p := base ++ [0]) R (hstf (mvAs s (base ++ [0]) 0 (c :: c2 :: l) ++ mvTs s (base ++ [1]) 0 args)) hcl (q := 0) (ts := ts) hrep (fun z hz => htr _ hi z (List.mem_append.2 (.inl hz)))
      have hl2 : vs.length = (c :: c2 :: l).length := hrep.len
      rw [dif_neg (by simp [hl2])]
      have e : ∃ r1 r2 rs', nilAs P ts vs' = r1 :: r2 :: rs' := by
        have := hs.len
        rw [hl2] at this
        match hn : nilAs P ts vs' with
        | [] => rw [hn] at this; simp at this
        | [_] => rw [hn] at this; simp at this
        | r1 :: r2 :: rs' => exact ⟨_, _, _, rfl⟩
      obtain ⟨r1, r2, rs', e⟩ := e
      rw [e] at hs ⊢
      exact ⟨vs.toArray, rfl, hs⟩
  cases e with
  | normal => exact fin he
  | ret => exact fin he
  | exit i => exact False.elim he
theorem MeetsM.intro {P : Program} {f : FuncId} {args : List PA} {post : AV → List AV → Prop} {fn : Func} {c : Code} (hm : P.follows .mixedOrders = true) (H : Nat → Nat) (hf : P.funcs[f]? = some fn) (hb : fn.body = some c) (hn : (fn.name != "runtime.NumGoroutine") = true)
    {rs : List ResultVar} {ts pts : List TypeId} (hr : fn.results.toList = rs) (ht : fn.resultTypes.toList = ts) (hp : args.length = pts.length)
    (hw : wfCode (fun _ => []) fn.ntmps c = true) (h : ∀ vals : Nat → Value, awp P H (fun _ => []) c (St.initM vals args) (RetQM P rs ts pts vals args post)) : MeetsM P f args post :=
  MeetsM.introO hm H _ hf hb hn hr ht hp hw h
end Go.Ev
