/- Part 2 of what the row leans on: the evaluator, words, contracts of functions; pruned by a program of ours. -/
import Derived.Test.YtcmkgoflnfchcaaWn01
import Derived.Laws.Cells
import Derived.Laws.IdiomCopy
import Derived.Laws.Entries
set_option linter.unusedVariables false
set_option linter.unusedSimpArgs false
namespace Go.Ev
open Go Go.RowKit
theorem one_iff {u : Value} : one u ↔ u.oneCell' = true := by cases u <;> simp [one, Value.oneCell']
theorem oneB_iff {u : Value} : oneB u = true ↔ one u := by cases u <;> simp [one, oneB]
def RepOb (C : Cx) (id : Id) : OB → Prop
  | .row e sz els => Rep C true (.own id) (.row e sz els) (C.m id)
  | .box t cs => ∃ g arr, C.m id = .pointer (some ⟨g, 0, none⟩) ∧ C.L g = some id ∧ C.w.heap[g]? = some (.cells arr t (0, 0)) ∧ arr.size = cs.length ∧ RepCs C false (.read .ent) g 0 0 cs
  | .pin c x => Rep C false (.read .ent) c x
  | .mp d _ l => ∃ g es clock, C.m id = .map (some g) ∧ C.L g = some id ∧ C.w.heap[g]? = some (.map es clock) ∧ es.toList.map (fun x => (x.key, x.val)) = l ∧ ∀ x ∈ es.toList, MapKept.IsKey d x.key ∧ one x.val
def cx (w : World) (S F : Nat → Prop) (L : Nat → Option Id) (m : Id → Value) (σ : Id → Option OB) : Cx := ⟨w, S, F, L, m, fun id => (σ id).isSome = true⟩
structure RelC (W0 : Bs) (S F : Nat → Prop) (n : Nat) (L : Nat → Option Id) (m : Id → Value) (s : St) (a : Act) (w : World) : Prop where
  size : a.tmps.size = n
  defers : a.defers = W0.df
  env : ∀ d, Rep (cx w S F L m s.σ) false (.read .ent) (s.env d) (a.tmps.getD d undef)
  obj : ∀ id ob, s.σ id = some ob → RepOb (cx w S F L m s.σ) id ob
  lab : ∀ b p, L b = some p → W0.ok b ∧ b < w.heap.size
  ind : ∀ id id', (s.σ id).isSome = true → (s.σ id').isSome = true → cmp id id' = true → id = id'
  old : ∀ b, S b ∨ F b → ¬ W0.ok b
  below : W0.bel w
def Rel (W0 : Bs) (S F : Nat → Prop) (n : Nat) (s : St) (a : Act) (w : World) : Prop := ∃ L m, RelC W0 S F n L m s a w
structure Keep (C C' : Cx) (I J : List Id) : Prop where
  st : Stays C C'
  sub : ∀ id, hit J id = false → hit I id = false
  live : ∀ id, hit I id = false → C.live id → C'.live id ∧ C'.m id = C.m id
  tree : ∀ id, hit J id = false → C.live id → ∀ b q, C.L b = some (id ++ q) → C'.L b = some (id ++ q) ∧ C'.w.heap[b]? = C.w.heap[b]?
theorem Keep.org {C C' : Cx} {I J : List Id} (k : Keep C C' I J) : ∀ o, killO J o = false → C.alive o → Tr C C' (.read o) (.read o)
  | .ent, _, _ => ⟨id, fun b hb => k.st.ent b hb⟩
  | .frz, _, _ => ⟨id, fun b hb => k.st.frz b hb⟩
  | .obj id, h, hl => ⟨fun hl => (k.live id (k.sub id h) hl).1, fun b ⟨q, hb⟩ => ⟨⟨q, (k.tree id h hl b q hb).1⟩, (k.tree id h hl b q hb).2⟩⟩
  | .at id _ _ _, h, hl => ⟨fun hl => (k.live id (k.sub id h) hl).1, fun b ⟨q, hb⟩ => ⟨⟨q, (k.tree id h hl b q hb).1⟩, (k.tree id h hl b q hb).2⟩⟩
theorem Keep.hdr {C C' : Cx} {I J : List Id} (k : Keep C C' I J) {x : Value} : ∀ o, killO J o = false → C.alive o → C.hdr o x → C'.hdr o x
  | .ent, _, _, _ => trivial
  | .frz, _, _, _ => trivial
  | .obj _, _, _, _ => trivial
  | .at id sz i k', h, hl, ⟨g, off, h1, h2, h3⟩ => by
    have ht := k.tree id h hl g [] (by simpa using h2)
    refine ⟨g, off, ?_, by simpa using ht.1, (cell_same ht.2 _).trans h3⟩
    rw [(k.live id (k.sub id h) hl).2]; exact h1
mutual
theorem Rep.keep {C C' : Cx} {I J : List Id} (k : Keep C C' I J) : ∀ (a : AV) (x : Value), Rep C false (.read .ent) a x → Rep C' false (.read .ent) (a.kill I J) x
  | .any, _, _ => trivial
  | .v u, x, h => h
  | .row e sz els, x, h => by
    have hm := k.st.org .ent rfl
    obtain ⟨ha, A, c, rfl, h1, h2, h3⟩ := h
    refine ⟨ha, A, c, rfl, h1, h2, ?_⟩
    rcases h3 with h3 | ⟨b, off, rfl, hb, hr⟩
    · exact .inl h3
    · have := hm.2 b hb
      exact .inr ⟨b, off, rfl, this.1, RepEls.tr k.st hm els this.2 (.inr rfl) hr⟩
  | .rd o e sz els, x, h => by
    simp only [AV.kill]
    cases ho : killO J o with
    | true => trivial
    | false =>
      obtain ⟨h0, ⟨ha, hh⟩, A, c, rfl, h1, h2, h3⟩ := h
      have hm := k.org o ho ha
      refine ⟨h0, ⟨hm.1 ha, k.hdr o ho ha hh⟩, A, c, rfl, h1, h2, ?_⟩
      rcases h3 with h3 | ⟨b, off, rfl, hb, hr⟩
      · exact .inl h3
      · have := hm.2 b hb
        exact .inr ⟨b, off, rfl, this.1, RepEls.tr k.st hm els this.2 (.inr rfl) hr⟩
  | .rp o e sz els i j, x, h => by
    simp only [AV.kill]
    cases ho : killO J o with
    | true => trivial
    | false =>
      obtain ⟨h0, ha, b, off, rfl, hb, hr⟩ := h
      have hm := k.org o ho ha
      have := hm.2 b hb
      exact ⟨h0, hm.1 ha, b, off, rfl, this.1, RepEls.tr k.st hm els this.2 (.inr rfl) hr⟩
  | .ref id, x, h => by
    simp only [AV.kill]
    cases hi : hit I id with
    | true => trivial
    | false => exact ⟨h.1, h.2.1, (k.live id hi h.2.2.1).1, h.2.2.2.trans (k.live id hi h.2.2.1).2.symm⟩
  | .ptr id sz i j, x, h => by
    simp only [AV.kill]
    cases hi : hit I id with
    | true => trivial
    | false =>
      obtain ⟨h0, hl, h1⟩ := h
      refine ⟨h0, (k.live id hi hl).1, ?_⟩
      rw [(k.live id hi hl).2]
      exact h1
  | .agg cs, x, h => by
    obtain ⟨vs, rfl, h⟩ := h
    exact ⟨vs, rfl, RepVs.keep k cs vs.toList 0 h⟩
  | .tup cs, x, h => by
    obtain ⟨vs, rfl, h⟩ := h
    exact ⟨vs, rfl, RepVs.keep k cs vs.toList 0 h⟩
  | .bx t cs, x, h => Rep.loose _ _ (Rep.tr k.st (k.st.org .ent rfl) (.bx t cs) x h)
  | .ifc t a, x, h => by
    obtain ⟨v, rfl, h⟩ := h
    exact ⟨v, rfl, Rep.keep k a v h⟩
  | .fn f cs, x, h => by
    obtain ⟨vs, rfl, h⟩ := h
    exact ⟨vs, rfl, RepVs.keep k cs vs.toList 0 h⟩
theorem RepVs.keep {C C' : Cx} {I J : List Id} (k : Keep C C' I J) : ∀ (cs : List AV) (vs : List Value) (q : Nat), RepVs C false (.read .ent) q cs vs → RepVs C' false (.read .ent) q (killL I J cs) vs
  | [], vs, _, h => h
  | c :: cs, vs, q, h => by
    obtain ⟨y, ys, rfl, h1, h2⟩ := h
    exact ⟨y, ys, rfl, Rep.keep k c y h1, RepVs.keep k cs ys (q + 1) h2⟩
end
theorem RepCs.keep {C C' : Cx} {I J : List Id} (k : Keep C C' I J) : ∀ (cs : List AV) {b : Nat}, C'.w.heap[b]? = C.w.heap[b]? → ∀ {off q : Nat}, RepCs C false (.read .ent) b off q cs → RepCs C' false (.read .ent) b off q (killL I J cs)
  | [], _, _, _, _, _ => trivial
  | c :: cs, b, hb, off, q, h => by
    obtain ⟨⟨y, h1, h2, h3⟩, h4⟩ := h
    exact ⟨⟨y, (cell_same hb off).trans h1, h2, Rep.keep k c y h3⟩, RepCs.keep k cs hb h4⟩
theorem length_killL (I J : List Id) : ∀ cs : List AV, (killL I J cs).length = cs.length
  | [] => rfl
  | c :: cs => by simp [killL, length_killL I J cs]
mutual
/-- What leads to some objects may be forgotten. -/
theorem Rep.weak {C : Cx} {md : Md} (I : List Id) : ∀ (a : AV) (x : Value), Rep C false md a x → Rep C false md (a.kill I []) x
  | .any, _, _ => trivial
  | .v _, _, h => h
  | .row .., _, h => h
  | .rd o e sz els, x, h => by
    have : killO [] o = false := by cases o <;> rfl
    show Rep C false md (sel (killO [] o) .any (.rd o e sz els)) x
    rw [this]; exact h
  | .rp o e sz els i k, x, h => by
    have : killO [] o = false := by cases o <;> rfl
    show Rep C false md (sel (killO [] o) .any (.rp o e sz els i k)) x
    rw [this]; exact h
  | .ref id, x, h => by
    show Rep C false md (sel (hit I id) .any (.ref id)) x
    cases hit I id
    · exact h
    · exact trivial
  | .ptr id sz i k, x, h => by
    show Rep C false md (sel (hit I id) .any (.ptr id sz i k)) x
    cases hit I id
    · exact h
    · exact trivial
  | .agg cs, _, h => by
    obtain ⟨vs, rfl, h⟩ := h
    exact ⟨vs, rfl, RepVs.weak I cs _ _ h⟩
  | .tup cs, _, h => by
    obtain ⟨vs, rfl, h⟩ := h
    exact ⟨vs, rfl, RepVs.weak I cs _ _ h⟩
  | .bx .., _, h => h
  | .ifc t a, _, h => by
    obtain ⟨v, rfl, h⟩ := h
    exact ⟨v, rfl, Rep.weak I a v h⟩
  | .fn f cs, _, h => by
    obtain ⟨vs, rfl, h⟩ := h
    exact ⟨vs, rfl, RepVs.weak I cs _ _ h⟩
theorem RepVs.weak {C : Cx} {md : Md} (I : List Id) : ∀ (cs : List AV) (vs : List Value) (q : Nat), RepVs C false md q cs vs → RepVs C false md q (killL I [] cs) vs
  | [], _, _, h => h
  | c :: cs, _, q, h => by
    obtain ⟨y, ys, rfl, h1, h2⟩ := h
    exact ⟨y, ys, rfl, Rep.weak I c y h1, RepVs.weak I cs ys (q + 1) h2⟩
end
theorem RepOb.keep {C C' : Cx} {I J : List Id} (k : Keep C C' I J) {id : Id} (hj : hit J id = false) (hl : C.live id) {ob : OB} (h : RepOb C id ob) : RepOb C' id (ob.kill I J) := by
  have hm := (k.live id (k.sub id hj) hl).2
  have ht := k.tree id hj hl
  cases ob with
  | row e sz els =>
    show Rep C' true (.own id) (.row e sz els) (C'.m id)
    rw [hm]
    exact Rep.tr k.st (show Tr C C' (.own id) (.own id) from ht) _ _ h
  | box t cs =>
    obtain ⟨g, arr, h1, h2, h3, h4, h5⟩ := h
    have := ht g [] (by simpa using h2)
    exact ⟨g, arr, hm.trans h1, by simpa using this.1, this.2.trans h3, h4.trans (length_killL I J cs).symm, RepCs.keep k cs this.2 h5⟩
  | pin c x => exact Rep.keep k c x h
  | mp _ _ l =>
    obtain ⟨g, es, clock, h1, h2, h3, h4⟩ := h
    have := ht g [] (by simpa using h2)
    exact ⟨g, es, clock, hm.trans h1, by simpa using this.1, this.2.trans h3, h4⟩
section
variable {W0 : Bs} {S F : Nat → Prop} {n : Nat} {L : Nat → Option Id} {m : Id → Value} {s : St} {a : Act} {w : World}
theorem rep_v {C : Cx} {cl : Bool} {md : Md} {u : Value} (h : one u) : Rep C cl md (.v u) u := ⟨rfl, h⟩
theorem repVs_v {C : Cx} {cl : Bool} : ∀ (vs : List Value) (md : Md) (q : Nat), (∀ v ∈ vs, one v) → RepVs C cl md q (vs.map .v) vs
  | [], _, _, _ => rfl
  | v :: vs, md, q, h => ⟨v, vs, rfl, rep_v (h v (by simp)), repVs_v vs md (q + 1) (fun x hx => h x (by simp [hx]))⟩
theorem rep_const {C : Cx} {cl : Bool} {md : Md} (u : Value) : Rep C cl md (constAV u) u := by
  cases u with
  | agg cs =>
    simp only [constAV]
    split
    · rename_i h
      exact ⟨cs, rfl, repVs_v _ _ _ (fun v hv => oneB_iff.1 (by simpa using (Array.all_eq_true'.1 h) v (by simpa using hv)))⟩
    · trivial
  | tuple _ => trivial
  | _ => exact ⟨rfl, trivial⟩
theorem RelC.ev (R : RelC W0 S F n L m s a w) (x : Operand) : Rep (cx w S F L m s.σ) false (.read .ent) (s.ev x) (a.eval x) := by
  cases x with
  | tmp t => exact R.env t
  | const v => exact rep_const v
  | global g => trivial
  | func f => exact ⟨rfl, trivial⟩
def dOk (n : Nat) : Option Nat → Prop
  | some d => d < n
  | none => True
theorem RelC.put (R : RelC W0 S F n L m s a w) {d : Option Nat} (hd : dOk n d) {x : AV} {v : Value} (h : Rep (cx w S F L m s.σ) false (.read .ent) x v) : RelC W0 S F n L m (s.put d x) (a.put d v) w := by
  cases d with
  | none => exact R
  | some d =>
    have hd' : d < a.tmps.size := by rw [R.size]; exact hd
    refine ⟨by simpa [Act.put] using R.size, R.defers, fun k => ?_, R.obj, R.lab, R.ind, R.old, R.below⟩
    show Rep (cx w S F L m s.σ) false (.read .ent) (upd s.env d x k) ((a.tmps.setIfInBounds d v).getD k undef)
    unfold upd
    by_cases e : k = d
    · subst e
      have e1 : (k == k) = true := by simp
      rw [e1]
      simpa [Array.getD, hd', sel] using h
    · have e1 : (k == d) = false := by simpa using e
      have e2 : (a.tmps.setIfInBounds d v).getD k undef = a.tmps.getD k undef := by
        simp [Array.getD_eq_getD_getElem?, Ne.symm e]
      rw [e1, e2]
      exact R.env k
theorem RelC.relink (R : RelC W0 S F n L m s a w) {d2 : Nat} {x : AV} (h : Rep (cx w S F L m s.σ) false (.read .ent) x (a.tmps.getD d2 undef)) : RelC W0 S F n L m (s.put (some d2) x) a w := by
  refine ⟨R.size, R.defers, fun k => ?_, R.obj, R.lab, R.ind, R.old, R.below⟩
  show Rep (cx w S F L m s.σ) false (.read .ent) (upd s.env d2 x k) (a.tmps.getD k undef)
  unfold upd
  by_cases e : k = d2
  · subst e
    rw [show (k == k) = true by simp]
    exact h
  · rw [show (k == d2) = false by simpa using e]
    exact R.env k
theorem getD_put_ne {a : Act} {k d : Nat} {v : Value} (e : k ≠ d) : (a.put (some d) v).tmps.getD k undef = a.tmps.getD k undef := by
  show (a.tmps.setIfInBounds d v).getD k undef = a.tmps.getD k undef
  simp [Array.getD_eq_getD_getElem?, Array.getElem?_setIfInBounds, Ne.symm e]
end
theorem cmp_refl (p : Id) : cmp p p = true := by simp [cmp]
theorem cmp_symm (p q : Id) : cmp p q = cmp q p := by simp [cmp, Bool.or_comm]
theorem hit_mem {I : List Id} {p : Id} (h : p ∈ I) {q : Id} (hq : hit I q = false) : cmp p q = false := by
  cases hc : cmp p q with
  | false => rfl
  | true =>
    have : hit I q = true := List.any_eq_true.2 ⟨p, h, hc⟩
    rw [hq] at this; cases this
theorem hit_self {I : List Id} {p : Id} (h : p ∈ I) : hit I p = true := List.any_eq_true.2 ⟨p, h, cmp_refl p⟩
theorem cmp_of_append {p q r r' : Id} (h : p ++ r = q ++ r') : cmp p q = true := by
  simp only [cmp, Bool.or_eq_true, List.isPrefixOf_iff_prefix]
  rcases Nat.le_total p.length q.length with hl | hl
  · exact .inl (List.prefix_of_prefix_length_le (List.prefix_append p r) (h ▸ List.prefix_append q r') hl)
  · exact .inr (List.prefix_of_prefix_length_le (List.prefix_append q r') (h ▸ List.prefix_append p r) hl)
theorem killS_some {σ : Id → Option OB} {I J : List Id} {x : Id} {ob : OB} (h : killS σ I J x = some ob) : hit J x = false ∧ ∃ ob0, σ x = some ob0 ∧ ob = ob0.kill I J := by
  unfold killS at h
  cases hj : hit J x with
  | true => rw [hj] at h; cases h
  | false =>
    rw [hj] at h
    cases hs : σ x with
    | none => rw [hs] at h; cases h
    | some ob0 => rw [hs] at h; exact ⟨rfl, ob0, rfl, (Option.some.inj h).symm⟩
theorem killS_isSome {σ : Id → Option OB} {I J : List Id} {x : Id} : (killS σ I J x).isSome = true ↔ hit J x = false ∧ (σ x).isSome = true := by
  unfold killS
  cases hj : hit J x with
  | true => simp [sel]
  | false => cases hs : σ x <;> simp [sel, mapOB]
section
variable {W0 : Bs} {S F : Nat → Prop} {n : Nat} {L : Nat → Option Id} {m : Id → Value} {s : St} {a : Act} {w : World}
theorem RelC.drop (R : RelC W0 S F n L m s a w) {I J : List Id} {L' : Nat → Option Id} {m' : Id → Value} {w' : World}
    (k : Keep (cx w S F L m s.σ) (cx w' S F L' m' (killS s.σ I J)) I J)
    (lab : ∀ b p, L' b = some p → W0.ok b ∧ b < w'.heap.size) (below : W0.bel w') : RelC W0 S F n L' m' (s.chg I J) a w' := by
  refine ⟨R.size, R.defers, fun d => Rep.keep k _ _ (R.env d), fun x ob h => ?_, lab, fun x y hx hy hc => ?_, R.old, below⟩
  · obtain ⟨hj, ob0, h0, rfl⟩ := killS_some h
    exact RepOb.keep k hj (show (s.σ x).isSome = true by rw [h0]; rfl) (R.obj x ob0 h0)
  · exact R.ind x y (killS_isSome.1 hx).2 (killS_isSome.1 hy).2 hc
theorem RelC.upd1 (R : RelC W0 S F n L m s a w) {I J : List Id} {id : Id} (hid : id ∈ J) {ob : OB} {L' : Nat → Option Id} {m' : Id → Value} {w' : World}
    (k : Keep (cx w S F L m s.σ) (cx w' S F L' m' (updS (killS s.σ I J) id ob)) I J) (hob : RepOb (cx w' S F L' m' (updS (killS s.σ I J) id ob)) id ob)
    (lab : ∀ b p, L' b = some p → W0.ok b ∧ b < w'.heap.size) (below : W0.bel w') : RelC W0 S F n L' m' ((s.chg I J).obj id ob) a w' := by
  have hcase : ∀ x ob', updS (killS s.σ I J) id ob x = some ob' → (x = id ∧ ob' = ob) ∨ (x ≠ id ∧ killS s.σ I J x = some ob') := fun x ob' h => by
    unfold updS at h
    by_cases e : x = id
    · subst e
      simp [sel] at h
      exact .inl ⟨rfl, h.symm⟩
    · have e1 : (x == id) = false := by simpa using e
      rw [e1] at h
      exact .inr ⟨e, h⟩
  refine ⟨R.size, R.defers, fun d => Rep.keep k _ _ (R.env d), fun x ob' h => ?_, lab, fun x y hx hy hc => ?_, R.old, below⟩
  · rcases hcase x ob' h with ⟨rfl, rfl⟩ | ⟨_, h1⟩
    · exact hob
    · obtain ⟨hj, ob0, h0, rfl⟩ := killS_some h1
      exact RepOb.keep k hj (show (s.σ x).isSome = true by rw [h0]; rfl) (R.obj x ob0 h0)
  · obtain ⟨o1, h1⟩ := Option.isSome_iff_exists.1 hx
    obtain ⟨o2, h2⟩ := Option.isSome_iff_exists.1 hy
    rcases hcase x o1 h1 with ⟨rfl, _⟩ | ⟨e1, g1⟩ <;> rcases hcase y o2 h2 with ⟨rfl, _⟩ | ⟨e2, g2⟩
    · rfl
    · rw [hit_mem hid (killS_some g2).1] at hc; cases hc
    · rw [cmp_symm, hit_mem hid (killS_some g1).1] at hc; cases hc
    · exact R.ind x y (by obtain ⟨_, _, g, _⟩ := killS_some g1; rw [g]; rfl) (by obtain ⟨_, _, g, _⟩ := killS_some g2; rw [g]; rfl) hc
end
end Go.Ev
set_option linter.unusedVariables false
set_option linter.unusedSimpArgs false
namespace Go.Ev
open Go Go.MapKept
theorem kEq_iff {d : TypeDesc} {a b : Value} (ha : IsKey d a) (hb : IsKey d b) : kEq a b = true ↔ a = b := by
  cases d <;> cases a <;> cases b <;> simp_all [IsKey, kEq, bytes_beq]
def pairsOf (es : List MapEntry) : List (Value × Value) := es.map fun x => (x.key, x.val)
theorem findNow_mget {d : TypeDesc} {k : Value} (hk : IsKey d k) : ∀ (l : List MapEntry) (i : Nat), (∀ x ∈ l, IsKey d x.key) → ∃ r, Instr.findNow d k l i = some r ∧ r.map (·.2) = mget (pairsOf l) k
  | [], _, _ => ⟨none, rfl, rfl⟩
  | e :: es, i, h => by
    obtain ⟨r, hr, hiff⟩ := sameNow_of_keys hk (h e (.head _))
    have hq := kEq_iff (h e (.head _)) hk
    cases r with
    | true =>
      have e1 : kEq e.key k = true := hq.2 (hiff.1 rfl).symm
      exact ⟨some (i, e.val), by simp [Instr.findNow, hr], by show some e.val = sel (kEq e.key k) _ _; rw [e1]; rfl⟩
    | false =>
      have e1 : kEq e.key k = false := by
        cases h2 : kEq e.key k with
        | false => rfl
        | true => have := hiff.2 (hq.1 h2).symm; cases this
      obtain ⟨r, h1, h2⟩ := findNow_mget hk es (i + 1) (fun x hx => h x (.tail _ hx))
      exact ⟨r, by simp [Instr.findNow, hr, h1], by rw [h2]; show _ = sel (kEq e.key k) _ _; rw [e1]; rfl⟩
theorem run_lookup_own {P : Program} {w : World} {r : Nat} {es : Array MapEntry} {clock : Nat} {mty kt et : TypeId} {d : TypeDesc} {key z : Value} (hm : P.underlying mty = some (.map kt et)) (hd : P.underlying kt = some d)
    (hb : w.heap[r]? = some (.map es clock)) (hks : ∀ x ∈ es.toList, IsKey d x.key) (hk : IsKey d key) (hz : (zeroValue et).run P w = .ok z w) (c : Bool) :
    (Instr.lookup mty (.map (some r)) key c).run P w = .ok (if c then .tuple #[(mget (pairsOf es.toList) key).getD z, .bool (mget (pairsOf es.toList) key).isSome] else (mget (pairsOf es.toList) key).getD z) w := by
  obtain ⟨f, h1, h2⟩ := findNow_mget hk es.toList 0 hks
  rw [← h2]
  cases f with
  | none => cases c <;> simp [Instr.lookup, run_underlying hm, Go.MapKept.run_getObj_map hb, run_checkKey hd hk, run_findKey hd h1, hz, Result.andThen]
  | some p => cases c <;> simp [Instr.lookup, run_underlying hm, Go.MapKept.run_getObj_map hb, run_checkKey hd hk, run_findKey hd h1, hz, Result.andThen]
theorem findNow_mput {d : TypeDesc} {k v : Value} (hk : IsKey d k) : ∀ (l : List MapEntry) (i : Nat), (∀ x ∈ l, IsKey d x.key) →
    (Instr.findNow d k l i = some none ∧ mput (pairsOf l) k v = pairsOf l ++ [(k, v)]) ∨ ∃ j e, Instr.findNow d k l i = some (some (i + j, e.val)) ∧ l[j]? = some e ∧ e.key = k ∧ mput (pairsOf l) k v = (pairsOf l).set j (k, v)
  | [], _, _ => .inl ⟨rfl, rfl⟩
  | e :: es, i, h => by
    obtain ⟨r, hr, hiff⟩ := sameNow_of_keys hk (h e (.head _))
    have hq := kEq_iff (h e (.head _)) hk
    cases r with
    | true =>
      have e1 : kEq e.key k = true := hq.2 (hiff.1 rfl).symm
      exact .inr ⟨0, e, by simp [Instr.findNow, hr], rfl, (hiff.1 rfl).symm, by show sel (kEq e.key k) _ _ = _; rw [e1]; rfl⟩
    | false =>
      have e1 : kEq e.key k = false := by
        cases h2 : kEq e.key k with
        | false => rfl
        | true => have := hiff.2 (hq.1 h2).symm; cases this
      have e2 : mput (pairsOf (e :: es)) k v = (e.key, e.val) :: mput (pairsOf es) k v := by show sel (kEq e.key k) _ _ = _; rw [e1]; rfl
      rcases findNow_mput hk es (i + 1) (fun x hx => h x (.tail _ hx)) with ⟨h1, h2⟩ | ⟨j, e', h1, h2, h3, h4⟩
      · exact .inl ⟨by simp [Instr.findNow, hr, h1], by rw [e2, h2]; rfl⟩
      · exact .inr ⟨j + 1, e', by simp [Instr.findNow, hr, h1]; omega, by simpa using h2, h3, by rw [e2, h4]; rfl⟩
theorem run_mapUpdate_own {P : Program} {w : World} {r : Nat} {es : Array MapEntry} {clock : Nat} {mty kt et : TypeId} {d : TypeDesc} {key value : Value} (hm : P.underlying mty = some (.map kt et)) (hd : P.underlying kt = some d)
    (hb : w.heap[r]? = some (.map es clock)) (hks : ∀ x ∈ es.toList, IsKey d x.key) (hk : IsKey d key) :
    ∃ es' clock', (Instr.mapUpdate mty (.map (some r)) key value).run P w = .ok () { w with heap := w.heap.setIfInBounds r (.map es' clock') } ∧ pairsOf es'.toList = mput (pairsOf es.toList) key value ∧ ∀ x ∈ es'.toList, IsKey d x.key := by
  rcases findNow_mput (v := value) hk es.toList 0 hks with ⟨h1, h2⟩ | ⟨j, e, h1, h2, h3, h4⟩
  · refine ⟨es.push { key, val := value, born := clock }, clock + 1, ?_, ?_, fun x hx => ?_⟩
    · simp [Instr.mapUpdate, run_underlying hm, Go.MapKept.run_getObj_map hb, run_checkKey hd hk, run_findKey hd h1, Go.MapKept.run_setObj_map _ hb, Result.andThen]
    · rw [h2]; simp [pairsOf]
    · simp only [Array.toList_push, List.mem_append, List.mem_singleton] at hx
      rcases hx with hx | rfl
      · exact hks x hx
      · exact hk
  · have hj : es[j]? = some e := by simpa using h2
    refine ⟨es.modify j fun e => { e with key, val := value }, clock, ?_, ?_, ?_⟩
    · simp [Instr.mapUpdate, run_underlying hm, Go.MapKept.run_getObj_map hb, run_checkKey hd hk, run_findKey hd h1, hj, h3, run_keyThatStays hk, Go.MapKept.run_setObj_map _ hb, Result.andThen]
    · rw [h4]
      apply List.ext_getElem?
      intro i
      simp [pairsOf, Array.getElem?_modify, List.getElem?_set]
      by_cases hi : j = i
      · subst hi; simp [hj]
        exact (Array.getElem?_eq_some_iff.1 hj).1
      · simp [hi]
    · exact isKey_modify hks _ _ (fun e' he' => by rw [hj] at he'; cases he'; exact h3.symm)
end Go.Ev
