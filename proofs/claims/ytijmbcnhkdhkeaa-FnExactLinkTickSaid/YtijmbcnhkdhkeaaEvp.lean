/- The evaluator, part 16: calls that write what they are given. -/
import Derived.Test.YtijmbcnhkdhkeaaEvk
set_option linter.unusedVariables false
set_option linter.unusedSimpArgs false
namespace Go.Ev
open Go Go.RowKit
/-! ### names that move -/
def mvO : List (Id × Id) → Id → Option Id
  | [], _ => none
  | x :: mv, p => if x.1.isPrefixOf p then some (x.2 ++ p.drop x.1.length) else mvO mv p
theorem mvO_some : ∀ {mv : List (Id × Id)} {p q : Id}, mvO mv p = some q → ∃ x ∈ mv, ∃ r, p = x.1 ++ r ∧ q = x.2 ++ r
  | [], _, _, h => by cases h
  | x :: mv, p, q, h => by
    rw [mvO] at h
    split at h
    · rename_i hp
      obtain ⟨r, rfl⟩ := List.isPrefixOf_iff_prefix.1 hp
      exact ⟨x, by simp, r, rfl, by simpa using h.symm⟩
    · obtain ⟨y, hy, h⟩ := mvO_some h
      exact ⟨y, by simp [hy], h⟩
theorem mvO_out : ∀ {mv : List (Id × Id)} {y : Id}, (∀ x ∈ mv, cmp x.1 y = false) → ∀ r, mvO mv (y ++ r) = none
  | [], _, _, _ => rfl
  | x :: mv, y, h, r => by
    have h1 : x.1.isPrefixOf (y ++ r) = false := by
      cases hp : x.1.isPrefixOf (y ++ r) with
      | false => rfl
      | true =>
        obtain ⟨z, hz⟩ := List.isPrefixOf_iff_prefix.1 hp
        have := cmp_of_append hz
        rw [h x (by simp)] at this; cases this
    rw [mvO, h1]
    exact mvO_out (fun z hz => h z (by simp [hz])) r
theorem mvO_in : ∀ {mv : List (Id × Id)}, indep (mv.map (·.1)) = true → ∀ {x : Id × Id}, x ∈ mv → ∀ r, mvO mv (x.1 ++ r) = some (x.2 ++ r)
  | [], _, _, hx, _ => by simp at hx
  | z :: mv, hi, x, hx, r => by
    simp only [List.map_cons, indep, Bool.and_eq_true, Bool.not_eq_true'] at hi
    rw [mvO]
    rcases List.mem_cons.1 hx with rfl | hx
    · rw [if_pos (List.isPrefixOf_iff_prefix.2 (List.prefix_append _ _))]
      simp
    · have h1 : z.1.isPrefixOf (x.1 ++ r) = false := by
        cases hp : z.1.isPrefixOf (x.1 ++ r) with
        | false => rfl
        | true =>
          obtain ⟨z', hz⟩ := List.isPrefixOf_iff_prefix.1 hp
          have := cmp_of_append hz
          rw [cmp_symm, hit_mem (List.mem_map.2 ⟨x, hx, rfl⟩) hi.1] at this; cases this
      rw [h1]
      exact mvO_in hi.2 hx r
/-- Names behind names. -/
inductive Exts : List Id → List Id → Prop
  | nil : Exts [] []
  | cons {x r : Id} {xs rs : List Id} (e : Id) : x = r ++ e → Exts xs rs → Exts (x :: xs) (r :: rs)
theorem Exts.refl : ∀ l : List Id, Exts l l
  | [] => .nil
  | x :: l => .cons [] (by simp) (Exts.refl l)
theorem Exts.append {a b c d : List Id} (h : Exts a b) (k : Exts c d) : Exts (a ++ c) (b ++ d) := by
  induction h with
  | nil => exact k
  | cons e h _ ih => exact .cons e h ih
theorem cmp_ext {r e y : Id} (h : cmp (r ++ e) y = true) : cmp r y = true := by
  simp only [cmp, Bool.or_eq_true, List.isPrefixOf_iff_prefix] at h ⊢
  rcases h with ⟨z, hz⟩ | ⟨z, hz⟩
  · exact .inl ⟨e ++ z, by rw [← hz]; simp⟩
  · have := cmp_of_append (p := r) (r := e) (q := y) (r' := z) hz.symm
    simpa only [cmp, Bool.or_eq_true, List.isPrefixOf_iff_prefix] using this
theorem Exts.out {xs rs : List Id} (h : Exts xs rs) {y : Id} (hy : hit rs y = false) : hit xs y = false := by
  induction h with
  | nil => rfl
  | cons e h _ ih =>
    simp only [hit, List.any_cons, Bool.or_eq_false_iff] at hy ⊢
    refine ⟨?_, ih hy.2⟩
    cases hc : cmp _ y with
    | false => rfl
    | true => rw [h] at hc; rw [cmp_ext hc] at hy; exact absurd hy.1 (by simp)
theorem Exts.indep {xs rs : List Id} (h : Exts xs rs) (hi : indep rs = true) : indep xs = true := by
  induction h with
  | nil => rfl
  | @cons x r xs rs e hx hxs ih =>
    simp only [Go.Ev.indep, Bool.and_eq_true, Bool.not_eq_true'] at hi ⊢
    refine ⟨?_, ih hi.2⟩
    have h1 := hxs.out hi.1
    cases hh : hit xs x with
    | false => rfl
    | true =>
      obtain ⟨z, hz, hc⟩ := List.any_eq_true.1 hh
      rw [cmp_symm, hx] at hc
      have h2 := cmp_ext hc
      rw [cmp_symm, hit_mem hz h1] at h2; cases h2
section
variable {P : Program} {H : Nat → Nat} {W0 : Bs} {S F : Nat → Prop} {n : Nat} {L : Nat → Option Id} {m : Id → Value} {s : St} {a : Act} {w : World} {K : St → Prop}
def OriginQ (w : World) (S F : Nat → Prop) (L : Nat → Option Id) (m : Id → Value) (s : St) (Q : Id → Nat) : Prop :=
  ∀ id e sz els, s.σ id = some (.row e sz els) → els ≠ [] → ∃ g off arr fr c, m id = .slice (some ⟨g, off, none⟩) els.length c ∧ L g = some id ∧ w.heap[g]? = some (.cells arr e fr) ∧ els.length ≤ c ∧ off + c * sz ≤ arr.size ∧ unfrozen fr off (c * sz) ∧ els.length ≤ BIG ∧ RepEls (cx w S F L m s.σ) (.own id) g off (Q id) sz els
theorem RelC.origin (R : RelC W0 S F n L m s a w) : ∃ Q, OriginQ w S F L m s Q := by
  have h : ∀ id, ∃ q, ∀ e sz els, s.σ id = some (.row e sz els) → els ≠ [] → ∃ g off arr fr c, m id = .slice (some ⟨g, off, none⟩) els.length c ∧ L g = some id ∧ w.heap[g]? = some (.cells arr e fr) ∧ els.length ≤ c ∧ off + c * sz ≤ arr.size ∧ unfrozen fr off (c * sz) ∧ els.length ≤ BIG ∧ RepEls (cx w S F L m s.σ) (.own id) g off q sz els := fun id => by
    by_cases hh : ∃ e sz els, s.σ id = some (.row e sz els) ∧ els ≠ []
    · obtain ⟨e, sz, els, h1, h2⟩ := hh
      obtain ⟨A, c, hA, h3⟩ := R.obj id _ h1
      rcases h3 with ⟨h3, _⟩ | ⟨g, off, arr, fr, q, rfl, h4, h5, h6, h7, h8, h9, h10⟩
      · exact absurd h3 h2
      · refine ⟨q, fun e' sz' els' h1' _ => ?_⟩
        rw [h1] at h1'
        injection h1' with h1'; injection h1' with e1 e2 e3
        subst e1; subst e2; subst e3
        exact ⟨g, off, arr, fr, c, hA, h4, h5, h6, h7, h8, h9, h10⟩
    · exact ⟨0, fun e sz els h1 h2 => absurd ⟨e, sz, els, h1, h2⟩ hh⟩
  obtain ⟨Q, hQ⟩ := Classical.axiomOfChoice h
  exact ⟨Q, hQ⟩
def mvGA (s : St) (Q : Id → Nat) (t : Id) : AV → List (Id × Id)
  | .agg cs => mvCs t 0 cs
  | .ptr id _ _ _ => (id, t ++ [0]) :: (match s.σ id with | some (.box _ cs) => mvCs (t ++ [1]) 0 cs | _ => [])
  | .ref id => [(id, t)]
  | .rd (.at id sz i k) _ _ _ => [(id ++ [Q id + (i * sz + k)], t)]
  | _ => []
def mvG (s : St) (Q : Id → Nat) : Nat → List PA → List AV → List (Id × Id)
  | q, .mu _ :: ps, a :: as => mvGA s Q [q] a ++ mvG s Q (q + 1) ps as
  | q, .rd _ :: ps, _ :: as => mvG s Q (q + 1) ps as
  | _, _, _ => []
theorem mvCs_rootL : ∀ (cs : List AV) (p : Id) (q : Nat), (mvCs p q cs).map (·.1) = rootL cs
  | [], p, q => rfl
  | c :: cs, p, q => by
    have ih := mvCs_rootL cs p (q + 1)
    rw [mvCs, List.map_append, ih]
    cases c <;> rfl
theorem mvGA_exts (Q : Id → Nat) (t : Id) : ∀ c : AV, Exts ((mvGA s Q t c).map (·.1)) (s.rootA c)
  | .agg cs => by
    show Exts ((mvCs t 0 cs).map _) (rootL cs)
    rw [mvCs_rootL]; exact Exts.refl _
  | .ptr id _ _ _ => by
    simp only [mvGA, St.rootA, List.map_cons]
    refine .cons [] (by simp) ?_
    unfold rootB
    split
    · rename_i t' cs hs
      rw [hs]
      simp only []
      rw [mvCs_rootL]; exact Exts.refl _
    · rename_i hs
      split
      · rename_i t' cs hs'; exact absurd hs' (hs _ _)
      · exact .nil
  | .ref id => Exts.refl _
  | .rd o e sz els => by
    cases o with
    | «at» id sz i k => exact .cons [Q id + (i * sz + k)] rfl .nil
    | _ => exact .nil
  | .any => .nil
  | .v _ => .nil
  | .row .. => .nil
  | .rp .. => .nil
  | .tup .. => .nil
  | .bx .. => .nil
  | .ifc .. => .nil
  | .fn .. => .nil
theorem mvG_exts (Q : Id → Nat) : ∀ (ps : List PA) (as : List AV) (q : Nat), Exts ((mvG s Q q ps as).map (·.1)) (s.roots ps as)
  | [], _, _ => by simp [mvG, St.roots]; exact .nil
  | .mu _ :: ps, [], _ => by simp [mvG, St.roots]; exact .nil
  | .rd _ :: ps, [], _ => by simp [mvG, St.roots]; exact .nil
  | .mu _ :: ps, a :: as, q => by
    rw [mvG, St.roots, List.map_append]
    exact (mvGA_exts Q [q] a).append (mvG_exts Q ps as (q + 1))
  | .rd _ :: ps, a :: as, q => by
    rw [mvG, St.roots]
    exact mvG_exts Q ps as (q + 1)

/-! ### what is given -/
theorem givL_cl : ∀ {cs vs : List AV}, s.givL cs = some vs → ∃ I, s.clL cs = some (vs, I)
  | [], vs, h => by simp [St.givL] at h; exact ⟨[], by simp [St.clL, h]⟩
  | c :: cs, vs, h => by
    simp only [St.givL] at h
    obtain ⟨x, hx, h⟩ := bindO_eq h
    obtain ⟨y, hy, h⟩ := bindO_eq h
    obtain ⟨z, hz, h1⟩ := bindO_eq hx
    obtain rfl := Option.some.inj h1
    obtain rfl := Option.some.inj h
    obtain ⟨I, hI⟩ := givL_cl hy
    refine ⟨z.2 ++ I, ?_⟩
    simp only [St.clL, hz, hI, bindO]
theorem rowCell_some {sz i k : Nat} {o : Option OB} {c : AV} (h : rowCell sz i k o = some c) : ∃ e xs cs, o = some (.row e sz xs) ∧ xs[i]? = some cs ∧ cs[k]? = some c ∧ ∃ e' s' els, c = .row e' s' els := by
  unfold rowCell at h
  split at h
  · rename_i e sz' xs
    cases hsz : (sz' == sz) <;> rw [hsz] at h
    · cases h
    · obtain ⟨c', hc', h⟩ := bindO_eq (show bindO _ _ = _ from h)
      obtain ⟨cs, h1, h2⟩ := Option.bind_eq_some_iff.1 hc'
      have : sz' = sz := by simpa using hsz
      subst this
      split at h
      · obtain rfl := Option.some.inj h
        exact ⟨e, xs, cs, rfl, h1, h2, _, _, _, rfl⟩
      · cases h
  · cases h
theorem clA_soundX (R : RelC W0 S F n L m s a w) {C' : Cx} (hs : Stays (cx w S F L m s.σ) C') {cs vs : List AV} {I : List Id} (hI : s.clL cs = some (vs, I)) {y : Value} (hr : Rep (cx w S F L m s.σ) false (.read .ent) (.agg cs) y) {t : Id}
    (htr : ∀ x ∈ mvCs t 0 cs, Tr (cx w S F L m s.σ) C' (.own x.1) (.own x.2)) (ts : List (Option (Nat × Nat))) : Rep C' true (.own t) (.agg (nilL ts vs)) y := by
  obtain ⟨ys, rfl, hr⟩ := hr
  obtain ⟨g1, g2, g3, g4⟩ := clL_sound (p := t) R hs hI (q := 0) hr htr
  refine ⟨ys, rfl, RepVs.of (by rw [nilL_length, g1]; simpa using g2) fun j c' hj => ?_⟩
  obtain ⟨ty, u, h3, rfl⟩ := nilL_at hj
  obtain ⟨y, h4, h5⟩ := g4 j u h3
  exact ⟨y, h4, rep_nilC h5 ty⟩
theorem giv_sound (R : RelC W0 S F n L m s a w) {Q : Id → Nat} (hQ : OriginQ w S F L m s Q) {C' : Cx} (hs : Stays (cx w S F L m s.σ) C') {ts : List (Option (Nat × Nat))} {c v : AV} (h : s.givA ts c = some v) {y : Value} (hr : Rep (cx w S F L m s.σ) false (.read .ent) c y) {t : Id}
    (htr : ∀ x ∈ mvGA s Q t c, Tr (cx w S F L m s.σ) C' (.own x.1) (.own x.2)) : Rep C' true (.own t) v y := by
  have plain : ∀ x, s.givC c = bindO (s.clC c) (fun x => some x.1) → s.givC c = some x → (∀ z ∈ mvC t c, Tr (cx w S F L m s.σ) C' (.own z.1) (.own z.2)) → Rep C' true (.own t) (nilC (ts.headD none) x) y := fun x e hx htr => by
    rw [e] at hx
    obtain ⟨z, hz, h1⟩ := bindO_eq hx
    obtain rfl := Option.some.inj h1
    exact rep_nilC (clC_sound R hs (show s.clC c = some (z.1, z.2) from hz) hr htr).1 _
  cases c with
  | agg cs =>
    obtain ⟨x, hx, h⟩ := bindO_eq (show bindO _ _ = _ from h)
    obtain rfl := Option.some.inj h
    obtain ⟨I, hI⟩ := givL_cl hx
    exact clA_soundX R hs hI hr htr ts
  | ptr id sz i k =>
    have hx : i = 0 ∧ k = 0 ∧ ∃ b x, boxTC (s.σ id) = some b ∧ s.givL b.2 = some x ∧ v = .bx b.1 (nilL ts x) := by
      unfold St.givA at h
      split at h
      · rename_i e; cases e
      · rename_i e
        injection e with e1 e2 e3 e4
        subst e1; subst e3; subst e4
        obtain ⟨b, hb, h⟩ := bindO_eq h
        obtain ⟨x, hx, h⟩ := bindO_eq h
        exact ⟨rfl, rfl, b, x, hb, hx, (Option.some.inj h).symm⟩
      · obtain ⟨x, hx, _⟩ := bindO_eq h
        simp [St.givC, St.clC, bindO] at hx
    obtain ⟨rfl, rfl, b, x, hb, hx, rfl⟩ := hx
    obtain ⟨I, hI⟩ := givL_cl hx
    unfold boxTC at hb
    split at hb
    · rename_i tt cs hob
      obtain rfl := Option.some.inj hb
      obtain ⟨g, arr, h1, h2, h3, h4, h5⟩ := R.obj id _ hob
      obtain ⟨_, _, g', off, h6, rfl⟩ := hr
      rw [h1] at h6
      simp only [hdrAddr, Option.some.injEq, Addr.mk.injEq] at h6
      obtain ⟨rfl, rfl, _⟩ := h6
      simp only [mvGA, hob] at htr
      have ht := (htr (id, t ++ [0]) (by simp)) g [] (by simpa using h2)
      have hcell : ∀ o, C'.w.cell? ⟨g, o, none⟩ = w.cell? ⟨g, o, none⟩ := fun o => cell_same ht.2 o
      obtain ⟨vs, g1, g2⟩ := h5.cells
      have hreps : RepVs (cx w S F L m s.σ) false (.read .ent) 0 cs vs := RepVs.of g1 fun j c hc => by
        obtain ⟨y, k1, _, k3⟩ := h5.at_ hc
        have hj : j < vs.length := by rw [g1]; exact (List.getElem?_eq_some_iff.1 hc).1
        have h7 : vs[j]? = some vs[j] := List.getElem?_eq_getElem hj
        have h8 := (g2 j _ h7).1
        rw [k1] at h8
        exact ⟨y, by rw [h7, h8], k3⟩
      obtain ⟨k1, k2, k3, k4⟩ := clL_sound (p := t ++ [1]) R hs hI (q := 0) hreps (fun x hx => htr x (by simp [hx]))
      refine ⟨g, arr, by simp, by simpa using ht.1, ht.2.trans h3, by rw [nilL_length, k1]; exact h4, RepCs.of fun j c hc => ?_⟩
      obtain ⟨ty, u, h7, rfl⟩ := nilL_at hc
      obtain ⟨y, h8, h9⟩ := k4 j u h7
      exact ⟨y, (hcell _).trans (g2 j y h8).1, k3 y (List.mem_of_getElem? h8), rep_nilC h9 ty⟩
    · cases hb
  | ref id =>
    obtain ⟨x, hx, h⟩ := bindO_eq (show bindO _ _ = _ from h)
    obtain rfl := Option.some.inj h
    have hx : shapeOf (s.σ id) = some x := hx
    unfold shapeOf at hx
    split at hx
    · rename_i e sz els hob
      obtain rfl := Option.some.inj hx
      rw [show y = m id from hr.2.2.2]
      exact rep_nilC (Rep.tr hs (htr (id, t) (by simp [mvGA])) _ _ (R.obj id _ hob)) _
    · cases hx
  | rd o e sz els =>
    obtain ⟨x, hx, h⟩ := bindO_eq (show bindO _ _ = _ from h)
    obtain rfl := Option.some.inj h
    cases o with
    | «at» id sz i k =>
      obtain ⟨e1, xs, cs, hob, h1, h2, e', s', els', rfl⟩ := rowCell_some (show rowCell sz i k (s.σ id) = some x from hx)
      obtain ⟨_, ⟨_, g, off, hg, hL, hc⟩, _⟩ := hr
      obtain ⟨g2, off2, arr, fr, c2, hm, hL2, hh, _, _, _, _, hE⟩ := hQ id _ _ _ hob (by intro e; rw [e] at h1; simp at h1)
      rw [show (cx w S F L m s.σ).m id = m id from rfl, hm] at hg
      simp only [hdrAddr, Option.some.injEq, Addr.mk.injEq] at hg
      obtain ⟨rfl, rfl, _⟩ := hg
      obtain ⟨_, hC⟩ := hE.at_ h1
      obtain ⟨y', hy1, _, hy3⟩ := hC.at_ h2
      have : y' = y := by
        rw [Nat.add_assoc] at hy1
        exact Option.some.inj (hy1.symm.trans hc)
      subst this
      rw [show (Md.own id).sub (Q id + i * sz + k) = .own (id ++ [Q id + (i * sz + k)]) by rw [Nat.add_assoc]; rfl] at hy3
      exact rep_nilC (Rep.tr hs (htr (id ++ [Q id + (i * sz + k)], t) (by simp [mvGA])) _ _ hy3) _
    | ent => exact plain x rfl hx (fun z hz => by simp [mvC] at hz)
    | frz => exact plain x rfl hx (fun z hz => by simp [mvC] at hz)
    | obj => simp [St.givC, St.clC, bindO, isObj, sel] at hx
  | any => simp [St.givA, St.givC, St.clC, bindO] at h
  | row => simp [St.givA, St.givC, St.clC, bindO] at h
  | rp => simp [St.givA, St.givC, St.clC, bindO] at h
  | tup => simp [St.givA, St.givC, St.clC, bindO] at h
  | bx => simp [St.givA, St.givC, St.clC, bindO] at h
  | v u =>
    obtain ⟨x, hx, h⟩ := bindO_eq (show bindO _ _ = _ from h)
    obtain rfl := Option.some.inj h
    exact plain x rfl hx (fun z hz => by simp [mvC] at hz)
  | ifc t' b =>
    obtain ⟨x, hx, h⟩ := bindO_eq (show bindO _ _ = _ from h)
    obtain rfl := Option.some.inj h
    exact plain x rfl hx (fun z hz => by simp [mvC] at hz)
  | fn f cs =>
    obtain ⟨x, hx, h⟩ := bindO_eq (show bindO _ _ = _ from h)
    obtain rfl := Option.some.inj h
    exact plain x rfl hx (fun z hz => by simp [mvC] at hz)

/-! ### what is read -/
theorem coeX_sound (R : RelC W0 S F n L m s a w) {C' : Cx} {J : List Id} (hst : Stays (cx w S F L m s.σ) C') (hro : ∀ o, killO J o = false → Tr (cx w S F L m s.σ) C' (.read o) (.read .ent)) (hown : ∀ id, hit J id = false → Tr (cx w S F L m s.σ) C' (.own id) (.read .ent))
    {c c' : AV} (hap : apC J c = true) (h : s.coe c = some c') {y : Value} (hr : Rep (cx w S F L m s.σ) false (.read .ent) c y) : Rep C' true (.read .ent) c' y := by
  cases c with
  | any => obtain rfl := Option.some.inj h; trivial
  | v u => obtain rfl := Option.some.inj h; exact hr
  | rd o e sz els =>
    obtain rfl := Option.some.inj h
    obtain ⟨_, ⟨ha, _⟩, A, c, rfl, h1, h2, h3⟩ := hr
    have ht := hro o (by simpa [apC] using hap)
    refine ⟨ht.1 ha, A, c, rfl, h1, h2, ?_⟩
    rcases h3 with h3 | ⟨b, off, rfl, hb, hE⟩
    · exact .inl h3
    · exact .inr ⟨b, off, rfl, (ht.2 b hb).1, RepEls.tr hst ht els (ht.2 b hb).2 (.inr rfl) hE⟩
  | ref id =>
    simp only [St.coe] at h
    unfold coeRow at h
    split at h
    · rename_i e sz els hob
      obtain rfl := Option.some.inj h
      rw [show y = m id from hr.2.2.2]
      exact Rep.tr hst (hown id (by simpa [apC] using hap)) _ _ (R.obj id _ hob)
    · cases h
  | _ => cases h
theorem coeXL_sound (R : RelC W0 S F n L m s a w) {C' : Cx} {J : List Id} (hst : Stays (cx w S F L m s.σ) C') (hro : ∀ o, killO J o = false → Tr (cx w S F L m s.σ) C' (.read o) (.read .ent)) (hown : ∀ id, hit J id = false → Tr (cx w S F L m s.σ) C' (.own id) (.read .ent)) :
    ∀ {cs cs' : List AV}, apL J cs = true → s.coeL cs = some cs' → ∀ {vs : List Value} {q : Nat}, RepVs (cx w S F L m s.σ) false (.read .ent) q cs vs → RepVs C' true (.read .ent) q cs' vs
  | [], cs', _, h, vs, q, hr => by obtain rfl := Option.some.inj h; exact hr
  | c :: cs, cs', hap, h, vs, q, hr => by
    simp only [St.coeL] at h
    obtain ⟨x, hx, h⟩ := bindO_eq h
    obtain ⟨xs, hxs, h⟩ := bindO_eq h
    obtain rfl := Option.some.inj h
    obtain ⟨y, ys, rfl, h1, h2⟩ := hr
    simp only [apL, Bool.and_eq_true] at hap
    exact ⟨y, ys, rfl, coeX_sound R hst hro hown hap.1 hx h1, coeXL_sound R hst hro hown hap.2 hxs h2⟩
theorem apL_at {J : List Id} : ∀ {cs : List AV}, apL J cs = true → ∀ (i : Nat) (c : AV), cs[i]? = some c → apC J c = true
  | [], _, i, c, h => by simp at h
  | x :: xs, hap, i, c, h => by
    simp only [apL, Bool.and_eq_true] at hap
    cases i with
    | zero => obtain rfl := Option.some.inj h; exact hap.1
    | succ i => exact apL_at hap.2 i c (by simpa using h)
theorem coeXK_sound (R : RelC W0 S F n L m s a w) {C' : Cx} {J : List Id} (hw : C'.w = w) (hst : Stays (cx w S F L m s.σ) C') (hro : ∀ o, killO J o = false → Tr (cx w S F L m s.σ) C' (.read o) (.read .ent)) (hown : ∀ id, hit J id = false → Tr (cx w S F L m s.σ) C' (.own id) (.read .ent))
    {c c' : AV} (hap : s.apK J c = true) (h : s.coeK c = some c') {y : Value} (hr : Rep (cx w S F L m s.σ) false (.read .ent) c y) : Rep C' true (.read .ent) c' y := by
  unfold St.coeK at h
  split at h
  · obtain ⟨hsz, rfl⟩ := sel_eq_some h
    rename_i o t sz cs
    obtain ⟨_, ha, b, off, rfl, hb, hE⟩ := hr
    have ht := hro o (by simpa [St.apK] using hap)
    exact ⟨ht.1 ha, b, off, by simp, (ht.2 b hb).1, RepCs.tr hst ht _ (ht.2 b hb).2 (.inr rfl) hE.2.1⟩
  · rename_i id sz
    unfold coeBox at h
    split at h
    · rename_i t cs hob
      obtain ⟨cs', hcs, h⟩ := bindO_eq h
      obtain rfl := Option.some.inj h
      simp only [St.apK, Bool.and_eq_true, Bool.not_eq_true', hob, apBox] at hap
      obtain ⟨_, hl, g, off, hm, rfl⟩ := hr
      obtain ⟨g', arr, hm', hL, hh, hs, hC⟩ := R.obj id _ hob
      obtain ⟨h1, h2⟩ := coeL_at hcs
      have hm2 : m id = .pointer (some ⟨g', 0, none⟩) := hm'
      have hm1 : hdrAddr (m id) = some ⟨g, off, none⟩ := hm
      rw [hm2] at hm1
      obtain ⟨rfl, rfl⟩ : g' = g ∧ 0 = off := by simpa [hdrAddr] using hm1
      refine ⟨(hown id hap.1).1, g', 0, by simp, ((hown id hap.1).2 g' [] (by simpa using hL)).1, repCs_of (C := cx w S F L m s.σ) (off0 := 0) hw h1 (fun i c c' y g1 g2 g3 => coeX_sound R hst hro hown (apL_at hap.2 i c g1) (h2 i c c' g1 g2) g3) hC⟩
    · cases h
  · rename_i hn1 hn2
    refine coeX_sound R hst hro hown ?_ h hr
    cases c with
    | ptr => cases h
    | rp => cases h
    | _ => exact hap
theorem coeXKL_sound (R : RelC W0 S F n L m s a w) {C' : Cx} {J : List Id} (hw : C'.w = w) (hst : Stays (cx w S F L m s.σ) C') (hro : ∀ o, killO J o = false → Tr (cx w S F L m s.σ) C' (.read o) (.read .ent)) (hown : ∀ id, hit J id = false → Tr (cx w S F L m s.σ) C' (.own id) (.read .ent)) :
    ∀ {cs cs' : List AV}, s.apKL J cs = true → s.coeKL cs = some cs' → ∀ {vs : List Value} {q : Nat}, RepVs (cx w S F L m s.σ) false (.read .ent) q cs vs → RepVs C' true (.read .ent) q cs' vs
  | [], cs', _, h, vs, q, hr => by obtain rfl := Option.some.inj h; exact hr
  | c :: cs, cs', hap, h, vs, q, hr => by
    simp only [St.coeKL] at h
    obtain ⟨x, hx, h⟩ := bindO_eq h
    obtain ⟨xs, hxs, h⟩ := bindO_eq h
    obtain rfl := Option.some.inj h
    obtain ⟨y, ys, rfl, h1, h2⟩ := hr
    simp only [St.apKL, Bool.and_eq_true] at hap
    exact ⟨y, ys, rfl, coeXK_sound R hw hst hro hown hap.1 hx h1, coeXKL_sound R hw hst hro hown hap.2 hxs h2⟩
theorem coeXA_sound (R : RelC W0 S F n L m s a w) {C' : Cx} {J : List Id} (hw : C'.w = w) (hst : Stays (cx w S F L m s.σ) C') (hro : ∀ o, killO J o = false → Tr (cx w S F L m s.σ) C' (.read o) (.read .ent)) (hown : ∀ id, hit J id = false → Tr (cx w S F L m s.σ) C' (.own id) (.read .ent))
    {c c' : AV} (hap : s.apA J c = true) (h : s.coeA c = some c') {y : Value} (hr : Rep (cx w S F L m s.σ) false (.read .ent) c y) : Rep C' true (.read .ent) c' y := by
  cases c with
  | agg cs =>
    obtain ⟨x, hx, h⟩ := bindO_eq (show bindO _ _ = _ from h)
    obtain rfl := Option.some.inj h
    obtain ⟨vs, rfl, h⟩ := hr
    exact ⟨vs, rfl, coeXL_sound R hst hro hown (by simpa [St.apA] using hap) hx h⟩
  | fn f cs =>
    obtain ⟨x, hx, h⟩ := bindO_eq (show bindO _ _ = _ from h)
    obtain rfl := Option.some.inj h
    obtain ⟨vs, rfl, h⟩ := hr
    exact ⟨vs, rfl, coeXKL_sound R hw hst hro hown hap hx h⟩
  | _ => simp only [St.coeA] at h; simp only [St.apA] at hap; exact coeXK_sound R hw hst hro hown hap h hr
theorem lendX_sound {C' : Cx} (hst : Stays (cx w S F L m s.σ) C') {c c' : AV} (h : lendC c = some c') {y : Value} (hr : Rep (cx w S F L m s.σ) false (.read .ent) c y) : Rep C' true (.read .ent) c' y := by
  cases c with
  | any => obtain rfl := Option.some.inj h; trivial
  | v u => obtain rfl := Option.some.inj h; exact hr
  | rd o e sz els =>
    simp only [lendC] at h
    cases ho : isObj o with
    | true => rw [ho] at h; cases h
    | false =>
      rw [ho] at h
      obtain rfl := Option.some.inj h
      obtain ⟨_, ⟨ha, _⟩, A, c, rfl, h1, h2, h3⟩ := hr
      have hm := hst.org o ho
      refine ⟨by simp [ho], ⟨hm.1 ha, Cx.hdr_of ho⟩, A, c, rfl, h1, h2, ?_⟩
      rcases h3 with h3 | ⟨b, off, rfl, hb, hE⟩
      · exact .inl h3
      · exact .inr ⟨b, off, rfl, (hm.2 b hb).1, RepEls.tr hst hm els (hm.2 b hb).2 (.inr rfl) hE⟩
  | _ => cases h
theorem lendXL_sound {C' : Cx} (hst : Stays (cx w S F L m s.σ) C') : ∀ {cs cs' : List AV}, lendL cs = some cs' → ∀ {vs : List Value} {q : Nat}, RepVs (cx w S F L m s.σ) false (.read .ent) q cs vs → RepVs C' true (.read .ent) q cs' vs
  | [], cs', h, vs, q, hr => by obtain rfl := Option.some.inj h; exact hr
  | c :: cs, cs', h, vs, q, hr => by
    simp only [lendL] at h
    obtain ⟨x, hx, h⟩ := bindO_eq h
    obtain ⟨xs, hxs, h⟩ := bindO_eq h
    obtain rfl := Option.some.inj h
    obtain ⟨y, ys, rfl, h1, h2⟩ := hr
    exact ⟨y, ys, rfl, lendX_sound hst hx h1, lendXL_sound hst hxs h2⟩
theorem lendXA_sound {C' : Cx} (hst : Stays (cx w S F L m s.σ) C') {c c' : AV} (h : lendA c = some c') {y : Value} (hr : Rep (cx w S F L m s.σ) false (.read .ent) c y) : Rep C' true (.read .ent) c' y := by
  cases c with
  | agg cs =>
    obtain ⟨x, hx, h⟩ := bindO_eq (show bindO _ _ = _ from h)
    obtain rfl := Option.some.inj h
    obtain ⟨vs, rfl, h⟩ := hr
    exact ⟨vs, rfl, lendXL_sound hst hx h⟩
  | _ => simp only [lendA] at h; exact lendX_sound hst h hr
theorem parg_sound (R : RelC W0 S F n L m s a w) {Q : Id → Nat} (hQ : OriginQ w S F L m s Q) {lend : Bool} {C' : Cx} {J : List Id} (hw : C'.w = w) (hst : Stays (cx w S F L m s.σ) C') (hro : lend = false → ∀ o, killO J o = false → Tr (cx w S F L m s.σ) C' (.read o) (.read .ent)) (hown : lend = false → ∀ id, hit J id = false → Tr (cx w S F L m s.σ) C' (.own id) (.read .ent)) :
    ∀ {ps : List PA} {ts : List TypeId} {xs : List Operand} {out : List PA} {q : Nat}, pargE P s lend J ps ts (xs.map s.ev) = some out → (∀ x ∈ mvG s Q q ps (xs.map s.ev), Tr (cx w S F L m s.σ) C' (.own x.1) (.own x.2)) → RepPs C' q out (xs.map a.eval)
  | [], [], [], out, q, h, _ => by obtain rfl := Option.some.inj h; rfl
  | [], [], _ :: _, out, q, h, _ => by cases h
  | [], _ :: _, _, out, q, h, _ => by simp [pargE] at h
  | .rd _ :: _, [], _, out, q, h, _ => by simp [pargE] at h
  | .mu _ :: _, [], _, out, q, h, _ => by simp [pargE] at h
  | .rd _ :: _, _ :: _, [], out, q, h, _ => by cases h
  | .mu _ :: _, _ :: _, [], out, q, h, _ => by cases h
  | .rd p :: ps, t :: ts, x :: xs, out, q, h, htr => by
    simp only [List.map_cons, pargE] at h
    obtain ⟨c, hc, h⟩ := bindO_eq h
    obtain ⟨cs', hcs, h⟩ := bindO_eq h
    obtain rfl := Option.some.inj h
    refine ⟨a.eval x, xs.map a.eval, rfl, ?_, parg_sound R hQ hw hst hro hown hcs (fun z hz => htr z (by simpa [mvG] using hz))⟩
    cases hap : s.apA J (s.ev x) <;> rw [hap] at hc
    · cases hc
    · cases lend with
      | true => exact lendXA_sound hst (show lendA _ = _ from hc) (R.ev x)
      | false =>
        obtain ⟨c0, hc0, hc⟩ := bindO_eq (show bindO _ _ = _ from hc)
        obtain rfl := Option.some.inj hc
        exact nilA_read (coeXA_sound R hw hst (hro rfl) (hown rfl) hap hc0 (R.ev x)) _
  | .mu p :: ps, t :: ts, x :: xs, out, q, h, htr => by
    simp only [List.map_cons, pargE] at h
    obtain ⟨c, hc, h⟩ := bindO_eq h
    obtain ⟨cs', hcs, h⟩ := bindO_eq h
    obtain rfl := Option.some.inj h
    exact ⟨a.eval x, xs.map a.eval, rfl, giv_sound R hQ hst hc (R.ev x) (fun z hz => htr z (by simp [mvG, hz])), parg_sound R hQ hw hst hro hown hcs (fun z hz => htr z (by simp [mvG, hz]))⟩

/-! ### what comes back -/
def rhoA (Q : Id → Nat) : AV → AV → Id → Option Id
  | .ref id, .row .., r => some (id ++ r)
  | .rd (.at id sz i k) _ _ _, .row .., r => some (id ++ [Q id + (i * sz + k)] ++ r)
  | .agg cs, .agg _, k :: r => match cs[k]? with | some (.ref id) => some (id ++ r) | _ => none
  | .ptr id _ _ _, .bx .., 0 :: r => some (id ++ r)
  | .ptr id _ _ _, .bx .., 1 :: r => some (1000002 :: id ++ r)
  | _, _, _ => none
theorem trX {C C' : Cx} {md md' : Md} (hm : Tr C C' md md') {c : AV} {x : Value} (hp : Stays C C' ∨ c.pure) (h : Rep C true md c x) : Rep C' true md' c x :=
  hp.elim (fun hs => Rep.tr hs hm c x h) (fun hp => Rep.trP hm c x hp h)
theorem pureCs_at : ∀ {cs : List AV} {j : Nat} {c : AV}, pureCs cs → cs[j]? = some c → c.pure
  | [], _, _, _, h => by simp at h
  | d :: cs, 0, c, hp, h => by obtain rfl : d = c := by simpa using h
                               exact hp.1
  | d :: cs, j + 1, c, hp, h => pureCs_at hp.2 (by simpa using h)
theorem bkL_spec : ∀ {cs ds : List AV} {x : Id × OB}, x ∈ bkL s cs ds → ∃ (j : Nat) (e sz : Nat) (els : List (List AV)), cs[j]? = some (.ref x.1) ∧ ds[j]? = some (.row e sz els) ∧ x.2 = .row e sz els
  | [], _, x, h => by simp [bkL] at h
  | c :: cs, [], x, h => by cases c <;> simp [bkL] at h
  | c :: cs, d :: ds, x, h => by
    have tail : x ∈ bkL s cs ds → ∃ (j : Nat) (e sz : Nat) (els : List (List AV)), (c :: cs)[j]? = some (.ref x.1) ∧ (d :: ds)[j]? = some (.row e sz els) ∧ x.2 = .row e sz els := fun h => by
      obtain ⟨j, e, sz, els, h1, h2, h3⟩ := bkL_spec h
      exact ⟨j + 1, e, sz, els, by simpa using h1, by simpa using h2, h3⟩
    unfold bkL at h
    split at h
    · rename_i id cs' e sz els ds' e1 e2
      injection e1 with e1 e1'; injection e2 with e2 e2'
      subst e1; subst e1'; subst e2; subst e2'
      rcases List.mem_cons.1 h with rfl | h
      · exact ⟨0, e, sz, els, rfl, rfl, rfl⟩
      · exact tail h
    · rename_i e1 e2
      injection e1 with e1 e1'; injection e2 with e2 e2'
      subst e1'; subst e2'
      exact tail h
    · simp at h
theorem bkA_sound (R : RelC W0 S F n L m s a w) {Q : Id → Nat} (hQ : OriginQ w S F L m s Q) {Cr C1 : Cx} {c rr : AV} {y : Value} {t : Id} {ts : List (Option (Nat × Nat))} {v0 : AV} (hr : Rep (cx w S F L m s.σ) false (.read .ent) c y) (hg : s.givA ts c = some v0) (hrr : Rep Cr true (.own t) rr y)
    (hρ : ∀ b e, Cr.L b = some (t ++ e) → C1.L b = rhoA Q c rr e ∧ C1.w.heap[b]? = Cr.w.heap[b]?) (hp : Stays Cr C1 ∨ rr.pure) (hm : ∀ id ∈ rrootA c, C1.m id = m id) (hl : ∀ x ∈ bkA s c rr, C1.live x.1)
    (hch : ∀ id sz i k g off, c = .ptr id sz i k → m id = .pointer (some ⟨g, off, none⟩) → ∀ j, C1.m (1000002 :: id ++ [j]) = (C1.w.cell? ⟨g, j, none⟩).getD undef) (hst : Stays (cx w S F L m s.σ) C1)
    (hat : ∀ id sz i k e z els, c = .rd (.at id sz i k) e z els → ∀ b q, L b = some (id ++ q) → (∀ r, q ≠ (Q id + (i * sz + k)) :: r) → C1.L b = some (id ++ q) ∧ C1.w.heap[b]? = w.heap[b]?) : ∀ x ∈ bkA s c rr, RepOb C1 x.1 x.2 := by
  intro x hx
  cases c with
  | ref id =>
    cases rr with
    | row e sz els =>
      have hx : x ∈ [(id, OB.row e sz els)] := hx
      simp only [List.mem_singleton] at hx
      subst hx
      show Rep C1 true (.own id) (.row e sz els) (C1.m id)
      rw [hm id (by simp [rrootA, rootC]), ← show y = m id from hr.2.2.2]
      exact trX (show Tr Cr C1 (.own t) (.own id) from fun b q hb => hρ b q hb) hp hrr
    | _ => simp [bkA, bkC] at hx
  | rd o e0 z0 els0 =>
    cases o with
    | «at» id sz i k =>
      cases rr with
      | row e z els =>
        simp only [bkA, bkC, backAt] at hx
        obtain ⟨x0, hx0, _⟩ := bindO_eq (show bindO _ _ = _ from hg)
        obtain ⟨e1, xs, cs, hob, h1, h2, e', s', els', rfl⟩ := rowCell_some (show rowCell sz i k (s.σ id) = some x0 from hx0)
        rw [hob] at hx
        simp only [List.mem_singleton] at hx
        subst hx
        obtain ⟨_, ⟨_, g, off, hgm, hL, hc⟩, _⟩ := hr
        obtain ⟨g2, off2, arr, fr, c2, hmm, hL2, hh, b1, b2, b3, b4, hE⟩ := hQ id _ _ _ hob (by intro e; rw [e] at h1; simp at h1)
        rw [show (cx w S F L m s.σ).m id = m id from rfl, hmm] at hgm
        simp only [hdrAddr, Option.some.injEq, Addr.mk.injEq] at hgm
        obtain ⟨rfl, rfl, _⟩ := hgm
        have hset : setCellAt xs i k (.row e z els) = xs.set i (cs.set k (.row e z els)) := by simp [setCellAt, h1]
        have hself := hat id sz i k _ _ _ rfl g2 [] (by simpa using hL2) (by simp)
        have hheap : C1.w.heap[g2]? = some (.cells arr e1 fr) := hself.2.trans hh
        have hcell : ∀ o, C1.w.cell? ⟨g2, o, none⟩ = w.cell? ⟨g2, o, none⟩ := fun o => cell_same hself.2 o
        have htr : ∀ j, j ≠ Q id + (i * sz + k) → Tr (cx w S F L m s.σ) C1 (.own (id ++ [j])) (.own (id ++ [j])) := fun j hj b q hb => by
          have hb' : L b = some (id ++ (j :: q)) := by have h9 : L b = some (id ++ [j] ++ q) := hb; rw [h9]; simp
          have := hat id sz i k _ _ _ rfl b (j :: q) hb' (fun r e => hj (by injection e))
          exact ⟨by simpa using this.1, this.2⟩
        show Rep C1 true (.own id) (.row e1 sz (setCellAt xs i k (.row e z els))) (C1.m id)
        rw [hset, hm id (by simp [rrootA, rootC]), hmm]
        refine ⟨_, c2, by rw [List.length_set], .inr ⟨g2, off2, arr, fr, Q id, rfl, by simpa using hself.1, hheap, by rw [List.length_set]; exact b1, b2, b3, by rw [List.length_set]; exact b4, RepEls.of fun i' cs' hi' => ?_⟩⟩
        have hil := (List.getElem?_eq_some_iff.1 h1).1
        rw [List.getElem?_set] at hi'
        obtain ⟨hcl0, hC0⟩ := hE.at_ h1
        have hkl : k < sz := by rw [← hcl0]; exact (List.getElem?_eq_some_iff.1 h2).1
        split at hi'
        · rename_i e2
          subst e2
          obtain rfl := Option.some.inj hi'
          refine ⟨by rw [List.length_set]; exact hcl0, RepCs.of fun j c' hj => ?_⟩
          rw [List.getElem?_set] at hj
          split at hj
          · rename_i e3
            subst e3
            split at hj
            · obtain rfl := Option.some.inj hj
              obtain ⟨y', hy1, hy2, _⟩ := hC0.at_ h2
              have : y' = y := by
                rw [Nat.add_assoc] at hy1
                exact Option.some.inj (hy1.symm.trans hc)
              subst this
              refine ⟨y', (hcell _).trans hy1, hy2, ?_⟩
              rw [show (Md.own id).sub (Q id + i * sz + k) = .own (id ++ [Q id + (i * sz + k)]) by rw [Nat.add_assoc]; rfl]
              exact trX (show Tr Cr C1 (.own t) (.own _) from fun b q hb => hρ b q hb) hp hrr
            · cases hj
          · rename_i e3
            obtain ⟨u, h4, h5, h6⟩ := hC0.at_ hj
            exact ⟨u, (hcell _).trans h4, h5, Rep.tr hst (htr _ (by omega)) _ _ h6⟩
        · rename_i hne
          obtain ⟨h3, h4⟩ := hE.at_ hi'
          refine ⟨h3, RepCs.of fun j c' hj => ?_⟩
          obtain ⟨u, h5, h6, h7⟩ := h4.at_ hj
          have hjl : j < sz := by rw [← h3]; exact (List.getElem?_eq_some_iff.1 hj).1
          refine ⟨u, (hcell _).trans h5, h6, Rep.tr hst (htr _ (fun e => hne ?_)) _ _ h7⟩
          have e4 : i' * sz + j = i * sz + k := by omega
          rcases Nat.lt_trichotomy i i' with hlt | heq | hlt
          · have : (i + 1) * sz ≤ i' * sz := Nat.mul_le_mul_right _ hlt
            rw [Nat.add_mul] at this
            omega
          · exact heq
          · have : (i' + 1) * sz ≤ i * sz := Nat.mul_le_mul_right _ hlt
            rw [Nat.add_mul] at this
            omega
      | _ => simp [bkA, bkC] at hx
    | _ => cases rr <;> simp [bkA, bkC] at hx
  | agg cs =>
    cases rr with
    | agg ds =>
      obtain ⟨j, e, sz, els, h1, h2, h3⟩ := bkL_spec (show x ∈ bkL s cs ds from hx)
      obtain ⟨id, ob⟩ := x
      have h3 : ob = .row e sz els := h3
      subst h3
      obtain ⟨vs, rfl, hr⟩ := hr
      obtain ⟨vs', he, hrr⟩ := hrr
      injection he with he
      subst he
      obtain ⟨u, k1, k2⟩ := hr.at_ h1
      obtain ⟨u', k3, k4⟩ := hrr.at_ h2
      rw [k1] at k3
      obtain rfl := Option.some.inj k3
      show Rep C1 true (.own id) (.row e sz els) (C1.m id)
      have hid : id ∈ rrootA (.agg cs) := by
        have : ∀ (cs : List AV) (j : Nat), cs[j]? = some (.ref id) → id ∈ rootL cs := by
          intro cs
          induction cs with
          | nil => intro j h; simp at h
          | cons c cs ih =>
            intro j h
            cases j with
            | zero => obtain rfl : c = .ref id := by simpa using h
                      simp [rootL]
            | succ j =>
              have := ih j (by simpa using h)
              cases c <;> simp [rootL, this]
        exact this cs j h1
      rw [hm id hid, ← show u = m id from k2.2.2.2]
      refine trX (show Tr Cr C1 (.own (t ++ [0 + j])) (.own id) from fun b q hb => ?_) (hp.imp (fun h => h) fun hp => pureCs_at hp h2) k4
      have := hρ b ((0 + j) :: q) (by rw [hb]; simp)
      refine ⟨this.1.trans ?_, this.2⟩
      simp only [Nat.zero_add, rhoA, h1]
    | _ => simp [bkA, bkC] at hx
  | ptr id sz i k =>
    cases rr with
    | bx tt ds =>
      have hob : ∃ b, boxTC (s.σ id) = some b := by
        unfold St.givA at hg
        split at hg
        · rename_i e; cases e
        · rename_i e
          injection e with e1 e2 e3 e4
          subst e1
          obtain ⟨b, hb, _⟩ := bindO_eq hg
          exact ⟨b, hb⟩
        · obtain ⟨x, hx, _⟩ := bindO_eq hg
          simp [St.givC, St.clC, bindO] at hx
      have hik : i = 0 ∧ k = 0 := by
        unfold St.givA at hg
        split at hg
        · rename_i e; cases e
        · rename_i e
          injection e with e1 e2 e3 e4
          exact ⟨e3, e4⟩
        · obtain ⟨x, hx, _⟩ := bindO_eq hg
          simp [St.givC, St.clC, bindO] at hx
      obtain ⟨rfl, rfl⟩ := hik
      obtain ⟨b, hb⟩ := hob
      unfold boxTC at hb
      split at hb
      · rename_i t' cs hob
        obtain ⟨g, arr, h1, h2, h3, h4, h5⟩ := R.obj id _ hob
        have h1 : m id = .pointer (some ⟨g, 0, none⟩) := h1
        obtain ⟨_, _, g', off, h6, rfl⟩ := hr
        rw [show (cx w S F L m s.σ).m id = m id from rfl, h1] at h6
        simp only [hdrAddr, Option.some.injEq, Addr.mk.injEq] at h6
        obtain ⟨rfl, rfl, _⟩ := h6
        obtain ⟨g2, arr2, he, k1, k2, k3, k4⟩ := hrr
        simp only [Nat.zero_mul, Nat.add_zero, Value.pointer.injEq, Option.some.injEq, Addr.mk.injEq] at he
        obtain ⟨rfl, _⟩ := he
        have hw0 := hρ g [0] k1
        have hw1 : C1.L g = some id := by rw [hw0.1]; simp [rhoA]
        have k5 : RepCs C1 true (.own (1000002 :: id)) g 0 0 ds := by
          have htr : Tr Cr C1 (.own (t ++ [1])) (.own (1000002 :: id)) := fun b q hb => by
            have := hρ b (1 :: q) (by rw [hb]; simp)
            exact ⟨this.1.trans (by simp [rhoA]), this.2⟩
          rcases hp with hp | hp
          · exact RepCs.tr hp htr ds hw0.2 (.inr rfl) k4
          · exact RepCs.trP htr ds hp hw0.2 (.inr rfl) k4
        have hx : x ∈ (id, OB.box tt (opnCs (1000002 :: id) 0 ds).1) :: (opnCs (1000002 :: id) 0 ds).2 := hx
        obtain ⟨q1, q2⟩ := opnCs_mem k5 (fun j y hj => by
          rw [hch id _ _ _ g 0 rfl h1 (0 + j)]
          rw [Nat.zero_add] at hj ⊢
          rw [hj]; rfl) (fun z hz => hl z (List.mem_cons_of_mem _ hz)) 0
        rcases List.mem_cons.1 hx with rfl | hx
        · exact ⟨g, arr2, (hm id (by simp [rrootA])).trans h1, hw1, hw0.2.trans k2, by rw [opnCs_length]; exact k3, q1⟩
        · exact q2 x hx
      · cases hb
    | _ => simp [bkA, bkC] at hx
  | any => cases rr <;> simp [bkA, bkC] at hx
  | v => cases rr <;> simp [bkA, bkC] at hx
  | row => cases rr <;> simp [bkA, bkC] at hx
  | rp => cases rr <;> simp [bkA, bkC] at hx
  | tup => cases rr <;> simp [bkA, bkC] at hx
  | bx => cases rr <;> simp [bkA, bkC] at hx
  | ifc => cases rr <;> simp [bkA, bkC] at hx
  | fn => cases rr <;> simp [bkA, bkC] at hx

/-! ### which names -/
theorem roots_mem {x : Id} : ∀ {ps : List PA} {as : List AV}, x ∈ s.roots ps as → ∃ (q : Nat) (p c : AV), ps[q]? = some (.mu p) ∧ as[q]? = some c ∧ x ∈ s.rootA c
  | [], _, h => by simp [St.roots] at h
  | .mu _ :: _, [], h => by simp [St.roots] at h
  | .rd _ :: _, [], h => by simp [St.roots] at h
  | .mu p :: ps, a :: as, h => by
    rw [St.roots, List.mem_append] at h
    rcases h with h | h
    · exact ⟨0, p, a, rfl, rfl, h⟩
    · obtain ⟨q, p', c, h1, h2, h3⟩ := roots_mem h
      exact ⟨q + 1, p', c, by simpa using h1, by simpa using h2, h3⟩
  | .rd p :: ps, a :: as, h => by
    rw [St.roots] at h
    obtain ⟨q, p', c, h1, h2, h3⟩ := roots_mem h
    exact ⟨q + 1, p', c, by simpa using h1, by simpa using h2, h3⟩
theorem rroots_of {x : Id} : ∀ {ps : List PA} {as : List AV} {q : Nat} {p c : AV}, ps[q]? = some (.mu p) → as[q]? = some c → x ∈ rrootA c → x ∈ rroots ps as
  | [], _, _, _, _, h, _, _ => by simp at h
  | _ :: _, [], _, _, _, _, h, _ => by simp at h
  | .mu p :: ps, a :: as, 0, _, _, _, h2, h3 => by
    obtain rfl := Option.some.inj h2
    simp [rroots, h3]
  | .rd p :: ps, a :: as, 0, _, _, h1, _, _ => by simp at h1
  | .mu p :: ps, a :: as, q + 1, _, _, h1, h2, h3 => by
    rw [rroots, List.mem_append]
    exact .inr (rroots_of (by simpa using h1) (by simpa using h2) h3)
  | .rd p :: ps, a :: as, q + 1, _, _, h1, h2, h3 => by
    rw [rroots]
    exact rroots_of (by simpa using h1) (by simpa using h2) h3
theorem roots_of {x : Id} : ∀ {ps : List PA} {as : List AV} {q : Nat} {p c : AV}, ps[q]? = some (.mu p) → as[q]? = some c → x ∈ s.rootA c → x ∈ s.roots ps as
  | [], _, _, _, _, h, _, _ => by simp at h
  | _ :: _, [], _, _, _, _, h, _ => by simp at h
  | .mu p :: ps, a :: as, 0, _, _, _, h2, h3 => by
    obtain rfl := Option.some.inj h2
    simp [St.roots, h3]
  | .rd p :: ps, a :: as, 0, _, _, h1, _, _ => by simp at h1
  | .mu p :: ps, a :: as, q + 1, _, _, h1, h2, h3 => by
    rw [St.roots, List.mem_append]
    exact .inr (roots_of (by simpa using h1) (by simpa using h2) h3)
  | .rd p :: ps, a :: as, q + 1, _, _, h1, h2, h3 => by
    rw [St.roots]
    exact roots_of (by simpa using h1) (by simpa using h2) h3
theorem ptrs_of {id : Id} : ∀ {ps : List PA} {as : List AV} {q : Nat} {p : AV} {sz i k : Nat}, ps[q]? = some (.mu p) → as[q]? = some (.ptr id sz i k) → id ∈ ptrs ps as
  | [], _, _, _, _, _, _, h, _ => by simp at h
  | _ :: _, [], _, _, _, _, _, _, h => by simp at h
  | .mu p :: ps, a :: as, 0, _, _, _, _, _, h2 => by
    obtain rfl := Option.some.inj h2
    simp [ptrs]
  | .rd p :: ps, a :: as, 0, _, _, _, _, h1, _ => by simp at h1
  | .mu p :: ps, a :: as, q + 1, _, _, _, _, h1, h2 => by
    have := ptrs_of (ps := ps) (as := as) (q := q) (by simpa using h1) (by simpa using h2)
    cases a <;> simp [ptrs, this]
  | .rd p :: ps, a :: as, q + 1, _, _, _, _, h1, h2 => by
    have := ptrs_of (ps := ps) (as := as) (q := q) (by simpa using h1) (by simpa using h2)
    cases a <;> simp [ptrs, this]
theorem ptrs_mem {id : Id} : ∀ {ps : List PA} {as : List AV}, id ∈ ptrs ps as → ∃ (q : Nat) (p : AV) (sz i k : Nat), ps[q]? = some (.mu p) ∧ as[q]? = some (.ptr id sz i k)
  | [], _, h => by simp [ptrs] at h
  | .mu _ :: _, [], h => by simp [ptrs] at h
  | .rd _ :: _, [], h => by simp [ptrs] at h
  | .mu p :: ps, a :: as, h => by
    have tail : id ∈ ptrs ps as → ∃ (q : Nat) (p' : AV) (sz i k : Nat), (PA.mu p :: ps)[q]? = some (.mu p') ∧ (a :: as)[q]? = some (.ptr id sz i k) := fun h => by
      obtain ⟨q, p', sz, i, k, h1, h2⟩ := ptrs_mem h
      exact ⟨q + 1, p', sz, i, k, by simpa using h1, by simpa using h2⟩
    cases a with
    | ptr id' sz i k =>
      simp only [ptrs, List.mem_cons] at h
      rcases h with rfl | h
      · exact ⟨0, p, sz, i, k, rfl, rfl⟩
      · exact tail h
    | _ => exact tail (by simpa [ptrs] using h)
  | .rd p :: ps, a :: as, h => by
    obtain ⟨q, p', sz, i, k, h1, h2⟩ := ptrs_mem (show id ∈ ptrs ps as by cases a <;> simpa [ptrs] using h)
    exact ⟨q + 1, p', sz, i, k, by simpa using h1, by simpa using h2⟩
theorem backs_mem {x : Id × OB} : ∀ {ps : List PA} {as rs : List AV}, x ∈ s.backs ps as rs → ∃ (q : Nat) (p c r : AV), ps[q]? = some (.mu p) ∧ as[q]? = some c ∧ rs[q]? = some r ∧ x ∈ bkA s c r
  | [], _, _, h => by simp [St.backs] at h
  | .mu _ :: _, [], _, h => by simp [St.backs] at h
  | .rd _ :: _, [], _, h => by simp [St.backs] at h
  | .mu _ :: _, _ :: _, [], h => by simp [St.backs] at h
  | .rd _ :: _, _ :: _, [], h => by simp [St.backs] at h
  | .mu p :: ps, a :: as, r :: rs, h => by
    rw [St.backs, List.mem_append] at h
    rcases h with h | h
    · exact ⟨0, p, a, r, rfl, rfl, rfl, h⟩
    · obtain ⟨q, p', c, r', h1, h2, h3, h4⟩ := backs_mem h
      exact ⟨q + 1, p', c, r', by simpa using h1, by simpa using h2, by simpa using h3, h4⟩
  | .rd p :: ps, a :: as, r :: rs, h => by
    rw [St.backs] at h
    obtain ⟨q, p', c, r', h1, h2, h3, h4⟩ := backs_mem h
    exact ⟨q + 1, p', c, r', by simpa using h1, by simpa using h2, by simpa using h3, h4⟩
theorem backs_of {x : Id × OB} : ∀ {ps : List PA} {as rs : List AV} {q : Nat} {p c r : AV}, ps[q]? = some (.mu p) → as[q]? = some c → rs[q]? = some r → x ∈ bkA s c r → x ∈ s.backs ps as rs
  | [], _, _, _, _, _, _, h, _, _, _ => by simp at h
  | _ :: _, [], _, _, _, _, _, _, h, _, _ => by simp at h
  | _ :: _, _ :: _, [], _, _, _, _, _, _, h, _ => by simp at h
  | .mu p :: ps, a :: as, r :: rs, 0, _, _, _, _, h2, h3, h4 => by
    obtain rfl := Option.some.inj h2
    obtain rfl := Option.some.inj h3
    simp [St.backs, h4]
  | .rd p :: ps, a :: as, r :: rs, 0, _, _, _, h1, _, _, _ => by simp at h1
  | .mu p :: ps, a :: as, r :: rs, q + 1, _, _, _, h1, h2, h3, h4 => by
    rw [St.backs, List.mem_append]
    exact .inr (backs_of (by simpa using h1) (by simpa using h2) (by simpa using h3) h4)
  | .rd p :: ps, a :: as, r :: rs, q + 1, _, _, _, h1, h2, h3, h4 => by
    rw [St.backs]
    exact backs_of (by simpa using h1) (by simpa using h2) (by simpa using h3) h4
theorem dead_of {x : Id} : ∀ {ps : List PA} {as rs : List AV} {q : Nat} {p c r : AV}, ps[q]? = some (.mu p) → as[q]? = some c → rs[q]? = some r → x ∈ s.deadA c r → x ∈ s.dead ps as rs
  | [], _, _, _, _, _, _, h, _, _, _ => by simp at h
  | _ :: _, [], _, _, _, _, _, _, h, _, _ => by simp at h
  | _ :: _, _ :: _, [], _, _, _, _, _, _, h, _ => by simp at h
  | .mu p :: ps, a :: as, r :: rs, 0, _, _, _, _, h2, h3, h4 => by
    obtain rfl := Option.some.inj h2
    obtain rfl := Option.some.inj h3
    simp [St.dead, h4]
  | .rd p :: ps, a :: as, r :: rs, 0, _, _, _, h1, _, _, _ => by simp at h1
  | .mu p :: ps, a :: as, r :: rs, q + 1, _, _, _, h1, h2, h3, h4 => by
    rw [St.dead, List.mem_append]
    exact .inr (dead_of (by simpa using h1) (by simpa using h2) (by simpa using h3) h4)
  | .rd p :: ps, a :: as, r :: rs, q + 1, _, _, _, h1, h2, h3, h4 => by
    rw [St.dead]
    exact dead_of (by simpa using h1) (by simpa using h2) (by simpa using h3) h4
theorem deadL_sub {x : Id} : ∀ {cs ds : List AV}, x ∈ deadL cs ds → x ∈ rootL cs
  | [], [], h => by simp [deadL, rootL] at h
  | [], _ :: _, h => by simp [deadL] at h
  | c :: cs, [], h => by cases c <;> simpa [deadL] using h
  | c :: cs, d :: ds, h => by
    unfold deadL at h
    split at h
    · rename_i id cs' e sz els ds' e1 e2
      injection e1 with e1 e1'; injection e2 with e2 e2'
      subst e1; subst e1'; subst e2'
      simp [rootL, deadL_sub h]
    · rename_i id cs' d' ds' hno e1 e2
      injection e1 with e1 e1'; injection e2 with e2 e2'
      subst e1; subst e1'; subst e2'
      rcases List.mem_cons.1 h with rfl | h
      · simp [rootL]
      · simp [rootL, deadL_sub h]
    · rename_i e1 e2
      injection e1 with e1 e1'; injection e2 with e2 e2'
      subst e1'; subst e2'
      have := deadL_sub h
      cases c <;> simp [rootL, this]
    · rename_i e1 e2; cases e2
    · rename_i e1 e2; cases e1
theorem deadA_sub {x : Id} {c r : AV} (h : x ∈ s.deadA c r) : x ∈ s.rootA c := by
  cases c with
  | agg cs => cases r <;> first | exact deadL_sub h | exact h
  | ptr id sz i k => cases r <;> first | exact h | exact List.mem_cons_of_mem _ h
  | ref id => cases r <;> first | exact h | (simp [St.deadA, deadC] at h)
  | rd o e sz els => cases o <;> cases r <;> first | exact h | (simp [St.deadA, deadC] at h) | (simp [St.deadA, deadC, rootC] at h)
  | _ => cases r <;> simp [St.deadA, deadC, rootC] at h
theorem dead_sub {x : Id} : ∀ {ps : List PA} {as rs : List AV}, x ∈ s.dead ps as rs → x ∈ s.roots ps as
  | [], _, _, h => by simp [St.dead] at h
  | .mu _ :: _, [], _, h => by simp [St.dead] at h
  | .rd _ :: _, [], _, h => by simp [St.dead] at h
  | .mu p :: ps, a :: as, [], h => by
    rw [St.dead, List.mem_append] at h
    rw [St.roots, List.mem_append]
    exact h.imp (fun h => h) dead_sub
  | .rd p :: ps, a :: as, [], h => by rw [St.dead] at h; rw [St.roots]; exact dead_sub h
  | .mu p :: ps, a :: as, r :: rs, h => by
    rw [St.dead, List.mem_append] at h
    rw [St.roots, List.mem_append]
    exact h.imp deadA_sub dead_sub
  | .rd p :: ps, a :: as, r :: rs, h => by rw [St.dead] at h; rw [St.roots]; exact dead_sub h
theorem rootL_back {x : Id} : ∀ {cs ds : List AV}, x ∈ rootL cs → x ∈ deadL cs ds ∨ ∃ ob, (x, ob) ∈ bkL s cs ds
  | [], _, h => by simp [rootL] at h
  | c :: cs, [], h => .inl (by cases c <;> simpa [deadL] using h)
  | c :: cs, d :: ds, h => by
    have tail : x ∈ rootL cs → x ∈ deadL cs ds ∨ ∃ ob, (x, ob) ∈ bkL s cs ds := rootL_back
    cases c with
    | ref id =>
      simp only [rootL, List.mem_cons] at h
      cases d with
      | row e sz els =>
        rcases h with rfl | h
        · exact .inr ⟨.row e sz els, by simp [bkL]⟩
        · rcases tail h with h | ⟨ob, h⟩
          · exact .inl (by simpa [deadL] using h)
          · exact .inr ⟨ob, by simp [bkL, h]⟩
      | _ =>
        rcases h with rfl | h
        · exact .inl (by simp [deadL])
        · rcases tail h with h | ⟨ob, h⟩
          · exact .inl (by simp [deadL, h])
          · exact .inr ⟨ob, by simpa [bkL] using h⟩
    | _ =>
      rcases tail (by simpa [rootL] using h) with h | ⟨ob, h⟩
      · exact .inl (by simpa [deadL] using h)
      · exact .inr ⟨ob, by simpa [bkL] using h⟩
theorem rootA_back {x : Id} {c r : AV} {ts : List (Option (Nat × Nat))} {v : AV} (hg : s.givA ts c = some v) (h : x ∈ s.rootA c) : x ∈ s.deadA c r ∨ (x ∈ rrootA c ∧ ∃ ob, (x, ob) ∈ bkA s c r) := by
  cases c with
  | agg cs =>
    cases r with
    | agg ds =>
      rcases rootL_back (s := s) (ds := ds) (show x ∈ rootL cs from h) with h1 | ⟨ob, h1⟩
      · exact .inl h1
      · exact .inr ⟨h, ob, h1⟩
    | _ => exact .inl h
  | ptr id sz i k =>
    cases r with
    | bx t ds =>
      have h : x ∈ id :: rootB (s.σ id) := h
      rcases List.mem_cons.1 h with rfl | h
      · exact .inr ⟨by simp [rrootA], _, List.mem_cons_self ..⟩
      · exact .inl h
    | _ => exact .inl h
  | ref id =>
    have h : x ∈ [id] := h
    simp only [List.mem_singleton] at h
    subst h
    cases r with
    | row e sz els => exact .inr ⟨by simp [rrootA, rootC], .row e sz els, by simp [bkA, bkC]⟩
    | _ => exact .inl (by simp [St.deadA, deadC, rootC])
  | rd o e sz els =>
    cases o with
    | «at» id z i k =>
      have h : x ∈ [id] := h
      simp only [List.mem_singleton] at h
      subst h
      cases r with
      | row e' sz' els' =>
        obtain ⟨x0, hx0, _⟩ := bindO_eq (show bindO _ _ = _ from hg)
        obtain ⟨e1, xs, cs, hob, _⟩ := rowCell_some (show rowCell z i k (s.σ x) = some x0 from hx0)
        exact .inr ⟨by simp [rrootA, rootC], .row e1 z (setCellAt xs i k (.row e' sz' els')), by simp [bkA, bkC, backAt, hob]⟩
      | _ => exact .inl (by simp [St.deadA, deadC, rootC])
    | _ => simp [St.rootA, rootC] at h
  | _ => simp [St.rootA, rootC] at h
theorem bkA_key {x : Id × OB} {c r : AV} (h : x ∈ bkA s c r) : x.1 ∈ rrootA c ∨ ∃ id sz i k j, c = .ptr id sz i k ∧ x.1 = 1000002 :: id ++ [j] := by
  cases c with
  | agg cs =>
    cases r with
    | agg ds =>
      obtain ⟨j, e, sz, els, h1, _, _⟩ := bkL_spec (show x ∈ bkL s cs ds from h)
      left
      have : ∀ (cs : List AV) (j : Nat), cs[j]? = some (.ref x.1) → x.1 ∈ rootL cs := by
        intro cs
        induction cs with
        | nil => intro j h; simp at h
        | cons c cs ih =>
          intro j h
          cases j with
          | zero => obtain rfl : c = .ref x.1 := by simpa using h
                    simp [rootL]
          | succ j =>
            have := ih j (by simpa using h)
            cases c <;> simp [rootL, this]
      exact this cs j h1
    | _ => simp [bkA, bkC] at h
  | ptr id sz i k =>
    cases r with
    | bx t ds =>
      have h : x ∈ (id, OB.box t (opnCs (1000002 :: id) 0 ds).1) :: (opnCs (1000002 :: id) 0 ds).2 := h
      rcases List.mem_cons.1 h with rfl | h
      · exact .inl (by simp [rrootA])
      · obtain ⟨j, _, hj⟩ := opnCs_key x h
        exact .inr ⟨id, sz, i, k, j, rfl, hj⟩
    | _ => simp [bkA, bkC] at h
  | ref id =>
    cases r with
    | row e sz els =>
      have h : x ∈ [(id, OB.row e sz els)] := h
      simp only [List.mem_singleton] at h
      subst h
      exact .inl (by simp [rrootA, rootC])
    | _ => simp [bkA, bkC] at h
  | rd o e sz els =>
    cases o with
    | «at» id z i k =>
      cases r with
      | row e' sz' els' =>
        simp only [bkA, bkC, backAt] at h
        split at h
        · simp only [List.mem_singleton] at h
          subst h
          exact .inl (by simp [rrootA, rootC])
        · simp at h
      | _ => simp [bkA, bkC] at h
    | _ => cases r <;> simp [bkA, bkC] at h
  | any => cases r <;> simp [bkA, bkC] at h
  | v => cases r <;> simp [bkA, bkC] at h
  | row => cases r <;> simp [bkA, bkC] at h
  | rp => cases r <;> simp [bkA, bkC] at h
  | tup => cases r <;> simp [bkA, bkC] at h
  | bx => cases r <;> simp [bkA, bkC] at h
  | ifc => cases r <;> simp [bkA, bkC] at h
  | fn => cases r <;> simp [bkA, bkC] at h
theorem rootL_live {C : Cx} {x : Id} : ∀ {cs : List AV} {vs : List Value} {q : Nat}, RepVs C false (.read .ent) q cs vs → x ∈ rootL cs → C.live x
  | [], _, _, _, h => by simp [rootL] at h
  | c :: cs, vs, q, hr, h => by
    obtain ⟨y, ys, rfl, h1, h2⟩ := hr
    cases c with
    | ref id =>
      simp only [rootL, List.mem_cons] at h
      rcases h with rfl | h
      · exact h1.2.2.1
      · exact rootL_live h2 h
    | _ => exact rootL_live h2 (by simpa [rootL] using h)
theorem rootLm_live {C : Cx} {x : Id} {b : Nat} : ∀ {cs : List AV} {off q : Nat}, RepCs C false (.read .ent) b off q cs → x ∈ rootL cs → C.live x
  | [], _, _, _, h => by simp [rootL] at h
  | c :: cs, off, q, hr, h => by
    obtain ⟨⟨y, _, _, h1⟩, h2⟩ := hr
    cases c with
    | ref id =>
      simp only [rootL, List.mem_cons] at h
      rcases h with rfl | h
      · exact h1.2.2.1
      · exact rootLm_live h2 h
    | _ => exact rootLm_live h2 (by simpa [rootL] using h)
theorem rootA_live (R : RelC W0 S F n L m s a w) {c : AV} {y : Value} (hr : Rep (cx w S F L m s.σ) false (.read .ent) c y) {x : Id} (h : x ∈ s.rootA c) : (s.σ x).isSome = true := by
  cases c with
  | agg cs =>
    obtain ⟨vs, rfl, hr⟩ := hr
    exact rootL_live hr (show x ∈ rootL cs from h)
  | ptr id sz i k =>
    have h : x ∈ id :: rootB (s.σ id) := h
    rcases List.mem_cons.1 h with rfl | h
    · exact hr.2.1
    · unfold rootB at h
      split at h
      · rename_i t cs hob
        obtain ⟨g, arr, _, _, _, _, h5⟩ := R.obj id _ hob
        exact rootLm_live h5 h
      · simp at h
  | ref id =>
    have h : x ∈ [id] := h
    simp only [List.mem_singleton] at h
    subst h
    exact hr.2.2.1
  | rd o e sz els =>
    cases o with
    | «at» id z i k =>
      have h : x ∈ [id] := h
      simp only [List.mem_singleton] at h
      subst h
      exact hr.2.1.1
    | _ => simp [St.rootA, rootC] at h
  | _ => simp [St.rootA, rootC] at h
theorem parg_giv {lend : Bool} {J : List Id} : ∀ {ps : List PA} {ts : List TypeId} {as : List AV} {out : List PA}, pargE P s lend J ps ts as = some out → ps.length = as.length ∧ ∀ {q : Nat} {p c : AV}, ps[q]? = some (.mu p) → as[q]? = some c → ∃ ts v, s.givA ts c = some v
  | [], [], [], out, h => ⟨rfl, fun h => by simp at h⟩
  | [], [], _ :: _, out, h => by cases h
  | [], _ :: _, _, out, h => by simp [pargE] at h
  | .rd _ :: _, [], _, out, h => by simp [pargE] at h
  | .mu _ :: _, [], _, out, h => by simp [pargE] at h
  | .rd _ :: _, _ :: _, [], out, h => by cases h
  | .mu _ :: _, _ :: _, [], out, h => by cases h
  | .rd p :: ps, t :: ts, x :: xs, out, h => by
    simp only [pargE] at h
    obtain ⟨c, hc, h⟩ := bindO_eq h
    obtain ⟨cs', hcs, h⟩ := bindO_eq h
    obtain ⟨h1, h2⟩ := parg_giv hcs
    refine ⟨by simp [h1], fun {q} _ _ hq hc => ?_⟩
    cases q with
    | zero => simp at hq
    | succ q => exact h2 (by simpa using hq) (by simpa using hc)
  | .mu p :: ps, t :: ts, x :: xs, out, h => by
    simp only [pargE] at h
    obtain ⟨c, hc, h⟩ := bindO_eq h
    obtain ⟨cs', hcs, h⟩ := bindO_eq h
    obtain ⟨h1, h2⟩ := parg_giv hcs
    refine ⟨by simp [h1], fun {q} _ _ hq hc' => ?_⟩
    cases q with
    | zero =>
      obtain rfl := Option.some.inj hc'
      exact ⟨_, _, hc⟩
    | succ q => exact h2 (by simpa using hq) (by simpa using hc')
theorem apartB_mem {I : List Id} : ∀ {J : List Id}, apartB I J = true → ∀ j ∈ J, hit I j = false
  | [], _, j, hj => by simp at hj
  | k :: J, h, j, hj => by
    simp only [apartB, Bool.and_eq_true, Bool.not_eq_true'] at h
    rcases List.mem_cons.1 hj with rfl | hj
    · exact h.1
    · exact apartB_mem h.2 j hj
theorem hit_sub {I J : List Id} (h : ∀ x ∈ I, x ∈ J) {y : Id} (hy : hit J y = false) : hit I y = false := by
  cases hh : hit I y with
  | false => rfl
  | true =>
    obtain ⟨z, hz, hc⟩ := List.any_eq_true.1 hh
    rw [hit_mem (h z hz) hy] at hc; cases hc
end
end Go.Ev
