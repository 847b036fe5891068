/- Part 5 of what the row leans on: the evaluator, words, contracts of functions; pruned by a program of ours. -/
import Derived.Test.YtcmkgoflnfchcaaWn04
import Derived.Deep.AppendSrc
import Derived.Great.BuildSlice
set_option linter.unusedVariables false
set_option linter.unusedSimpArgs false
namespace Go.Ev
open Go Go.RowKit
structure Wrote (w w' : World) (g : Nat) : Prop where
  os : w'.os = w.os
  tape : w'.tape = w.tape
  output : w'.output = w.output
  size : w.heap.size ≤ w'.heap.size
  other : ∀ b, b ≠ g → b < w.heap.size → w'.heap[b]? = w.heap[b]?
  lt : g < w'.heap.size
theorem Wrote.below {B : Bs} {w w' : World} {g : Nat} (h : Wrote w w' g) (hb : B.bel w) (hg : B.ok g) : B.bel w' :=
  ⟨h.os.trans hb.os, h.tape.trans hb.tape, h.output.trans hb.output, Nat.le_trans hb.size h.size, fun k hk => (h.other k (fun e => hk (e ▸ hg)) (Nat.lt_of_lt_of_le (Bs.lt hk) hb.size)).trans (hb.block k hk)⟩
theorem setCells_other (b : Nat) : ∀ (vs : List Value) (o : Nat) (w : World) (k : Nat), k ≠ b → (w.setCells b o vs).heap[k]? = w.heap[k]?
  | [], _, _, _, _ => rfl
  | v :: r, o, w, k, h => by
    rw [World.setCells, setCells_other b r (o + 1) _ k h]
    exact Below.heap_setCell w ⟨b, o, none⟩ v k h
theorem setCells_same (b : Nat) : ∀ (vs : List Value) (o : Nat) (w : World) (arr : Array Value) (e : TypeId) (fr : Nat × Nat), w.heap[b]? = some (.cells arr e fr) → ∃ arr', (w.setCells b o vs).heap[b]? = some (.cells arr' e fr) ∧ arr'.size = arr.size
  | [], _, _, arr, _, _, h => ⟨arr, h, rfl⟩
  | v :: r, o, w, arr, e, fr, h => by
    have h1 : (w.setCell ⟨b, o, none⟩ v).heap[b]? = some (.cells (arr.setIfInBounds o v) e fr) := by
      simp only [World.setCell, Array.getElem?_modify, if_true, h, Option.map_some]
      simp
    obtain ⟨arr', h2, h3⟩ := setCells_same b r (o + 1) _ _ e fr h1
    exact ⟨arr', h2, h3.trans (by simp)⟩
theorem setCells_world (b : Nat) : ∀ (vs : List Value) (o : Nat) (w : World), (w.setCells b o vs).os = w.os ∧ (w.setCells b o vs).tape = w.tape ∧ (w.setCells b o vs).output = w.output ∧ (w.setCells b o vs).heap.size = w.heap.size
  | [], _, _ => ⟨rfl, rfl, rfl, rfl⟩
  | v :: r, o, w => by
    obtain ⟨h1, h2, h3, h4⟩ := setCells_world b r (o + 1) (w.setCell ⟨b, o, none⟩ v)
    exact ⟨h1, h2, h3, h4.trans (World.size_setCell ..)⟩
theorem wrote_setCells {w : World} {b : Nat} (h : b < w.heap.size) (vs : List Value) (o : Nat) : Wrote w (w.setCells b o vs) b := by
  obtain ⟨h1, h2, h3, h4⟩ := setCells_world b vs o w
  exact ⟨h1, h2, h3, by omega, fun k hk _ => setCells_other b vs o w k hk, by omega⟩
theorem wrote_alloc (w : World) (o : Obj) : Wrote w (w.alloc o) w.heap.size := ⟨rfl, rfl, rfl, by simp, fun k _ hk => Below.heap_alloc w o k hk, by simp⟩
theorem wrote_drew_alloc (w : World) (o : Obj) : Wrote w (w.drew.alloc o) w.heap.size := ⟨rfl, rfl, rfl, by simp, fun k _ hk => Below.heap_alloc w.drew o k hk, by simp⟩
theorem alloc_heap (w : World) (o : Obj) : (w.alloc o).heap[w.heap.size]? = some o := by
  show (w.heap.push o)[w.heap.size]? = _
  simp
theorem RepCs.of {C : Cx} {cl : Bool} {md : Md} {b : Nat} : ∀ {cs : List AV} {off q : Nat}, (∀ k c, cs[k]? = some c → ∃ y, C.w.cell? ⟨b, off + k, none⟩ = some y ∧ one y ∧ Rep C cl (md.sub (q + k)) c y) → RepCs C cl md b off q cs
  | [], _, _, _ => trivial
  | c :: cs, off, q, h => ⟨by simpa using h 0 c (by simp), RepCs.of (cs := cs) fun k c' hc => by
      have := h (k + 1) c' (by simpa using hc)
      rwa [show off + 1 + k = off + (k + 1) by omega, show q + 1 + k = q + (k + 1) by omega]⟩
theorem RepEls.of {C : Cx} {md : Md} {b sz : Nat} : ∀ {els : List (List AV)} {off q : Nat}, (∀ i cs, els[i]? = some cs → cs.length = sz ∧ RepCs C true md b (off + i * sz) (q + i * sz) cs) → RepEls C md b off q sz els
  | [], _, _, _ => trivial
  | c :: cs, off, q, h => ⟨(h 0 c (by simp)).1, by simpa using (h 0 c (by simp)).2, RepEls.of (els := cs) fun i c' hc => by
      have := h (i + 1) c' (by simpa using hc)
      rw [show (i + 1) * sz = sz + i * sz by rw [Nat.add_mul, Nat.one_mul, Nat.add_comm]] at this
      rwa [Nat.add_assoc, Nat.add_assoc]⟩
section
variable {P : Program} {H : Nat → Nat} {W0 : Bs} {S F : Nat → Prop} {n : Nat} {L : Nat → Option Id} {m : Id → Value} {s : St} {a : Act} {w : World} {K : St → Prop}
def newL (L : Nat → Option Id) (ρ : Id → Id) (g : Nat) (id : Id) : Nat → Option Id := fun b => if b = g then some id else (L b).map ρ
def newM (m : Id → Value) (id : Id) (hdr : Value) : Id → Value := fun y => if y = id then hdr else m y
theorem keep_wrote (R : RelC W0 S F n L m s a w) {I J : List Id} {id : Id} {ob : OB} {w' : World} {g : Nat} (hw : Wrote w w' g) (hsub : ∀ y, hit J y = false → hit I y = false) (hid : id ∈ J)
    {ρ : Id → Id} (hρ : ∀ y r, hit J y = false → ρ (y ++ r) = y ++ r) (hg : ∀ p, L g = some p → p = id) (hg0 : W0.ok g) {hdr : Value}
    (hkeep : ∀ y, hit I y = false → (s.σ y).isSome = true → hit J y = true → y = id ∧ m id = hdr) :
    Keep (cx w S F L m s.σ) (cx w' S F (newL L ρ g id) (newM m id hdr) (updS (killS s.σ I J) id ob)) I J := by
  have hold : ∀ b, S b ∨ F b → w'.heap[b]? = w.heap[b]? := fun b hb => by
    have h1 := R.old b hb
    exact hw.other b (fun e => h1 (e ▸ hg0)) (Nat.lt_of_lt_of_le (Bs.lt h1) R.below.size)
  refine ⟨⟨fun b hb => ⟨hb, hold b (.inl hb)⟩, fun b hb => ⟨hb, hold b (.inr hb)⟩⟩, hsub, fun y hy hl => ?_, fun y hy hl b q hb => ?_⟩
  · by_cases hj : hit J y = true
    · obtain ⟨rfl, hm⟩ := hkeep y hy hl hj
      refine ⟨?_, ?_⟩
      · show (updS (killS s.σ I J) y ob y).isSome = true
        simp [updS, sel]
      · show newM m y hdr y = m y
        simp [newM, hm]
    · have hj : hit J y = false := by simpa using hj
      have hne : y ≠ id := fun e => by subst e; rw [hit_self hid] at hj; cases hj
      refine ⟨?_, if_neg hne⟩
      show (updS (killS s.σ I J) id ob y).isSome = true
      have e1 : (y == id) = false := by simpa using hne
      unfold updS
      rw [e1]
      exact killS_isSome.2 ⟨hj, hl⟩
  · have hb' : L b = some (y ++ q) := hb
    have hbg : b ≠ g := fun e => by
      subst e
      have h1 : cmp id y = true := cmp_of_append (p := id) (r := []) (q := y) (r' := q) (by simpa using (hg _ hb').symm)
      rw [hit_mem hid hy] at h1
      cases h1
    have := R.lab b _ hb'
    refine ⟨?_, hw.other b hbg this.2⟩
    show newL L ρ g id b = some (y ++ q)
    rw [newL, if_neg hbg, hb', Option.map_some, hρ y q hy]
theorem RelC.wrote (R : RelC W0 S F n L m s a w) {I J : List Id} {id : Id} {ob : OB} {w' : World} {g : Nat} (hw : Wrote w w' g) (hid : id ∈ J) (hg0 : W0.ok g) {ρ : Id → Id} {hdr : Value}
    (k : Keep (cx w S F L m s.σ) (cx w' S F (newL L ρ g id) (newM m id hdr) (updS (killS s.σ I J) id ob)) I J)
    (hob : RepOb (cx w' S F (newL L ρ g id) (newM m id hdr) (updS (killS s.σ I J) id ob)) id ob) : RelC W0 S F n (newL L ρ g id) (newM m id hdr) ((s.chg I J).obj id ob) a w' := by
  refine R.upd1 hid k hob (fun b p hb => ?_) (hw.below R.below hg0)
  unfold newL at hb
  split at hb
  · rename_i e; subst e; exact ⟨hg0, hw.lt⟩
  · obtain ⟨p', hp', _⟩ := Option.map_eq_some_iff.1 hb
    have := R.lab b p' hp'
    exact ⟨this.1, Nat.lt_of_lt_of_le this.2 hw.size⟩
theorem tr_moved' (R : RelC W0 S F n L m s a w) {w' : World} {g : Nat} (hw : Wrote w w' g) {σ' : Id → Option OB} {m' : Id → Value} {id i t : Id} {ρ : Id → Id} (hρ : ∀ r, ρ (i ++ r) = t ++ r) (hi : ∀ b r, L b = some (i ++ r) → b ≠ g) :
    Tr (cx w S F L m s.σ) (cx w' S F (newL L ρ g id) m' σ') (.own i) (.own t) := fun b q hb => by
  have hb' : L b = some (i ++ q) := hb
  have hbg : b ≠ g := hi b q hb'
  have := R.lab b _ hb'
  refine ⟨?_, hw.other b hbg this.2⟩
  show newL L ρ g id b = some (t ++ q)
  rw [newL, if_neg hbg, hb', Option.map_some, hρ q]
theorem tr_moved (R : RelC W0 S F n L m s a w) {w' : World} {g : Nat} (hw : Wrote w w' g) {σ' : Id → Option OB} {m' : Id → Value} {id i t : Id} {ρ : Id → Id} (hg : ∀ p, L g = some p → p = id) (hρ : ∀ r, ρ (i ++ r) = t ++ r) (hi : ∀ r, id ≠ i ++ r) :
    Tr (cx w S F L m s.σ) (cx w' S F (newL L ρ g id) m' σ') (.own i) (.own t) :=
  tr_moved' R hw hρ fun _ r hb e => hi r (by subst e; exact (hg _ hb).symm)
theorem ne_append {i id : Id} (h : cmp i id = false) : ∀ r, id ≠ i ++ r := fun r e => by
  have : cmp i id = true := cmp_of_append (p := i) (r := r) (q := id) (r' := []) (by simpa using e.symm)
  rw [h] at this; cases this
def mvL : List (Id × Id) → Id → Id
  | [], p => p
  | x :: mv, p => if x.1.isPrefixOf p then x.2 ++ p.drop x.1.length else mvL mv p
theorem mvL_out : ∀ {mv : List (Id × Id)} {y : Id}, (∀ x ∈ mv, cmp x.1 y = false) → ∀ r, mvL mv (y ++ r) = y ++ r
  | [], _, _, _ => rfl
  | x :: mv, y, h, r => by
    have h1 : x.1.isPrefixOf (y ++ r) = false := by
      cases hp : x.1.isPrefixOf (y ++ r) with
      | false => rfl
      | true =>
        obtain ⟨z, hz⟩ := List.isPrefixOf_iff_prefix.1 hp
        have := cmp_of_append hz
        rw [h x (by simp)] at this; cases this
    rw [mvL, h1]
    exact mvL_out (fun z hz => h z (by simp [hz])) r
theorem mvL_in : ∀ {mv : List (Id × Id)}, indep (mv.map (·.1)) = true → ∀ {x : Id × Id}, x ∈ mv → ∀ r, mvL mv (x.1 ++ r) = x.2 ++ r
  | [], _, _, hx, _ => by simp at hx
  | z :: mv, hi, x, hx, r => by
    simp only [List.map_cons, indep, Bool.and_eq_true, Bool.not_eq_true'] at hi
    rw [mvL]
    rcases List.mem_cons.1 hx with rfl | hx
    · rw [if_pos (List.isPrefixOf_iff_prefix.2 (List.prefix_append _ _))]
      simp
    · have h1 : z.1.isPrefixOf (x.1 ++ r) = false := by
        cases hp : z.1.isPrefixOf (x.1 ++ r) with
        | false => rfl
        | true =>
          obtain ⟨z', hz⟩ := List.isPrefixOf_iff_prefix.1 hp
          have := cmp_of_append hz
          rw [cmp_symm, hit_mem (List.mem_map.2 ⟨x, hx, rfl⟩) hi.1] at this; cases this
      rw [h1]
      exact mvL_in hi.2 hx r
def mvC (t : Id) : AV → List (Id × Id)
  | .ref i => [(i, t)]
  | _ => []
def mvCs (p : Id) : Nat → List AV → List (Id × Id)
  | _, [] => []
  | q, c :: cs => mvC (p ++ [q]) c ++ mvCs p (q + 1) cs
mutual
/-- What shows nothing of the call's own stands anywhere. -/
theorem clB_tr {C C' : Cx} (hs : Stays C C') {md : Md} {cl : Bool} : ∀ {md0 : Md} {a : AV} {x : Value}, a.clB = true → Rep C cl md0 a x → Rep C' true md a x
  | _, .any, _, h, _ => by cases h
  | _, .v u, _, _, h => h
  | _, .row .., _, h, _ => by cases h
  | _, .rd o e sz els, _, h, hr => by
    have ho : isObj o = false := by simpa [AV.clB] using h
    obtain ⟨_, ⟨ha, _⟩, A, c, rfl, h1, h2, h3⟩ := hr
    have hm' := hs.org o ho
    refine ⟨by simp [ho], ⟨hm'.1 ha, Cx.hdr_of ho⟩, A, c, rfl, h1, h2, ?_⟩
    rcases h3 with h3 | ⟨b, off, rfl, hb, hr⟩
    · exact .inl h3
    · have := hm'.2 b hb
      exact .inr ⟨b, off, rfl, this.1, RepEls.tr hs hm' els this.2 (.inr rfl) hr⟩
  | _, .rp .., _, h, _ => by cases h
  | _, .ref .., _, h, _ => by cases h
  | _, .ptr .., _, h, _ => by cases h
  | _, .tup .., _, h, _ => by cases h
  | _, .bx .., _, h, _ => by cases h
  | _, .agg cs, _, h, hr => by
    obtain ⟨vs, rfl, hr⟩ := hr
    exact ⟨vs, rfl, clBL_tr hs (by simpa [AV.clB] using h) hr⟩
  | _, .ifc t a, _, h, hr => by
    obtain ⟨v, rfl, hr⟩ := hr
    exact ⟨v, rfl, clB_tr hs (by simpa [AV.clB] using h) hr⟩
  | _, .fn f cs, _, h, hr => by
    obtain ⟨vs, rfl, hr⟩ := hr
    exact ⟨vs, rfl, clBL_tr hs (by simpa [AV.clB] using h) hr⟩
theorem clBL_tr {C C' : Cx} (hs : Stays C C') {md : Md} {cl : Bool} : ∀ {md0 : Md} {cs : List AV} {vs : List Value} {q q' : Nat}, clBL cs = true → RepVs C cl md0 q cs vs → RepVs C' true md q' cs vs
  | _, [], _, _, _, _, h => h
  | _, c :: cs, _, _, q', h, hr => by
    obtain ⟨y, ys, rfl, h1, h2⟩ := hr
    simp only [clBL, Bool.and_eq_true] at h
    exact ⟨y, ys, rfl, clB_tr hs h.1 h1, clBL_tr hs h.2 h2⟩
end
theorem clC_mv {c v : AV} {I : List Id} (h : s.clC c = some (v, I)) (t : Id) : (mvC t c).map (·.1) = I := by
  cases c with
  | v u => simp only [St.clC] at h; have := sel_eq_some h; simp at this; simp [mvC, ← this.2.2]
  | rd o e sz els =>
    simp only [St.clC] at h
    cases ho : isObj o <;> rw [ho] at h
    · simp [sel] at h; simp [mvC, ← h.2]
    · cases h
  | ref id =>
    simp only [St.clC, ownRow] at h
    split at h
    · simp at h; simp [mvC, ← h.2]
    · cases h
  | ifc t a => have := (sel_eq_some (show sel _ _ _ = _ from h)).2; simp at this; simp [mvC, ← this.2]
  | fn f cs => have := (sel_eq_some (show sel _ _ _ = _ from h)).2; simp at this; simp [mvC, ← this.2]
  | _ => cases h
theorem clL_mv : ∀ {cs vs : List AV} {I : List Id}, s.clL cs = some (vs, I) → ∀ (p : Id) (q : Nat), (mvCs p q cs).map (·.1) = I
  | [], vs, I, h, p, q => by simp [St.clL] at h; simp [mvCs, h.2]
  | c :: cs, vs, I, h, p, q => by
    simp only [St.clL] at h
    obtain ⟨x, hx, h⟩ := bindO_eq h
    obtain ⟨y, hy, h⟩ := bindO_eq h
    simp only [Option.some.injEq, Prod.mk.injEq] at h
    rw [mvCs, List.map_append, clC_mv (show s.clC c = some (x.1, x.2) from hx), clL_mv (show s.clL cs = some (y.1, y.2) from hy)]
    exact h.2
theorem clC_sound (R : RelC W0 S F n L m s a w) {C' : Cx} (hs : Stays (cx w S F L m s.σ) C') {c v : AV} {I : List Id} (h : s.clC c = some (v, I)) {y : Value} (hr : Rep (cx w S F L m s.σ) false (.read .ent) c y) {t : Id}
    (htr : ∀ x ∈ mvC t c, Tr (cx w S F L m s.σ) C' (.own x.1) (.own x.2)) : Rep C' true (.own t) v y ∧ one y := by
  cases c with
  | v u =>
    simp only [St.clC] at h
    obtain ⟨h1, h2⟩ := sel_eq_some h
    simp only [Prod.mk.injEq] at h2
    rw [← h2.1, hr.1]
    exact ⟨rep_v (oneB_iff.1 h1), oneB_iff.1 h1⟩
  | rd o e sz els =>
    simp only [St.clC] at h
    cases ho : isObj o <;> rw [ho] at h
    · simp only [sel, Option.some.injEq, Prod.mk.injEq] at h
      rw [← h.1]
      obtain ⟨_, ⟨ha, _⟩, A, c, rfl, h1, h2, h3⟩ := hr
      have hm' := hs.org o ho
      refine ⟨⟨by simp [ho], ⟨hm'.1 ha, Cx.hdr_of ho⟩, A, c, rfl, h1, h2, ?_⟩, trivial⟩
      rcases h3 with h3 | ⟨b, off, rfl, hb, hr⟩
      · exact .inl h3
      · have := hm'.2 b hb
        exact .inr ⟨b, off, rfl, this.1, RepEls.tr hs hm' els this.2 (.inr rfl) hr⟩
    · cases h
  | ref id =>
    simp only [St.clC, ownRow] at h
    split at h
    · rename_i e sz els hob
      simp only [Option.some.injEq, Prod.mk.injEq] at h
      rw [← h.1]
      have h1 := R.obj id _ hob
      obtain ⟨_, h2, _, h3⟩ := hr
      rw [h3]
      exact ⟨Rep.tr hs (htr (id, t) (by simp [mvC])) _ _ h1, h3 ▸ h2⟩
    · cases h
  | ifc t' a =>
    obtain ⟨h1, h2⟩ := sel_eq_some (show sel _ _ _ = _ from h)
    simp only [Prod.mk.injEq] at h2
    rw [← h2.1]
    have h3 := clB_tr hs (md := .own t) (a := .ifc t' a) (by simpa [AV.clB] using h1) hr
    exact ⟨h3, by obtain ⟨v, rfl, _⟩ := hr; trivial⟩
  | fn f cs =>
    obtain ⟨h1, h2⟩ := sel_eq_some (show sel _ _ _ = _ from h)
    simp only [Prod.mk.injEq] at h2
    rw [← h2.1]
    have h3 := clB_tr hs (md := .own t) (a := .fn f cs) (by simpa [AV.clB] using h1) hr
    exact ⟨h3, by obtain ⟨v, rfl, _⟩ := hr; trivial⟩
  | _ => cases h
theorem clL_sound (R : RelC W0 S F n L m s a w) {C' : Cx} (hs : Stays (cx w S F L m s.σ) C') {p : Id} : ∀ {cs vs : List AV} {I : List Id}, s.clL cs = some (vs, I) → ∀ {ys : List Value} {q q' : Nat}, RepVs (cx w S F L m s.σ) false (.read .ent) q' cs ys →
    (∀ x ∈ mvCs p q cs, Tr (cx w S F L m s.σ) C' (.own x.1) (.own x.2)) → vs.length = cs.length ∧ ys.length = cs.length ∧ (∀ y ∈ ys, one y) ∧ ∀ j v, vs[j]? = some v → ∃ y, ys[j]? = some y ∧ Rep C' true (.own (p ++ [q + j])) v y
  | [], vs, I, h, ys, q, q', hr, _ => by
    simp [St.clL] at h
    obtain rfl := hr
    simp [h.1]
  | c :: cs, vs, I, h, ys, q, q', hr, ht => by
    simp only [St.clL] at h
    obtain ⟨x, hx, h⟩ := bindO_eq h
    obtain ⟨z, hz, h⟩ := bindO_eq h
    simp only [Option.some.injEq, Prod.mk.injEq] at h
    obtain ⟨y, ys, rfl, hr1, hr2⟩ := hr
    obtain ⟨g1, g2⟩ := clC_sound R hs (show s.clC c = some (x.1, x.2) from hx) hr1 (t := p ++ [q]) (fun z hz => ht z (by simp [mvCs, hz]))
    obtain ⟨g3, g4, g5, g6⟩ := clL_sound (p := p) R hs (show s.clL cs = some (z.1, z.2) from hz) (q := q + 1) hr2 (fun z hz => ht z (by simp [mvCs, hz]))
    rw [← h.1]
    refine ⟨by simp [g3], by simp [g4], fun y' hy' => ?_, fun j v hj => ?_⟩
    · rcases List.mem_cons.1 hy' with rfl | hy'
      · exact g2
      · exact g5 y' hy'
    · cases j with
      | zero => obtain rfl : x.1 = v := by simpa using hj
                exact ⟨y, by simp, by simpa using g1⟩
      | succ j =>
        obtain ⟨y', h1, h2⟩ := g6 j v (by simpa using hj)
        exact ⟨y', by simpa using h1, by rwa [show q + (j + 1) = q + 1 + j by omega]⟩
theorem rep_nilC {C : Cx} {cl : Bool} {p : Id} {v : AV} {y : Value} (h : Rep C cl (.own p) v y) (ty : Option (Nat × Nat)) : Rep C cl (.own p) (nilC ty v) y := by
  unfold nilC
  split
  · exact ⟨none, 0, h.1, .inl ⟨rfl, rfl, rfl⟩⟩
  · exact h
theorem nilL_length : ∀ (ts : List (Option (Nat × Nat))) (vs : List AV), (nilL ts vs).length = vs.length
  | [], vs => by simp [nilL]
  | _ :: _, [] => by simp [nilL]
  | t :: ts, v :: vs => by simp [nilL, nilL_length ts vs]
theorem nilL_at : ∀ {ts : List (Option (Nat × Nat))} {vs : List AV} {j : Nat} {v' : AV}, (nilL ts vs)[j]? = some v' → ∃ ty v, vs[j]? = some v ∧ v' = nilC ty v
  | [], vs, j, v', h => ⟨none, v', by simpa [nilL] using h, by simp [nilC]⟩
  | _ :: _, [], j, v', h => by simp [nilL] at h
  | t :: ts, v :: vs, 0, v', h => ⟨t, v, rfl, by simpa [nilL] using h.symm⟩
  | t :: ts, v :: vs, j + 1, v', h => by
    obtain ⟨ty, u, h1, h2⟩ := nilL_at (ts := ts) (vs := vs) (j := j) (by simpa [nilL] using h)
    exact ⟨ty, u, by simpa using h1, h2⟩
theorem setAt_length : ∀ (vs : List AV) (k : Nat) (cs : List AV), (setAt vs k cs).length = cs.length
  | [], _, _ => rfl
  | v :: vs, k, cs => by rw [setAt, setAt_length vs (k + 1), List.length_set]
theorem setAt_at : ∀ {vs : List AV} {k : Nat} {cs : List AV} {j : Nat} {c : AV}, (setAt vs k cs)[j]? = some c → (k ≤ j ∧ vs[j - k]? = some c) ∨ ((j < k ∨ k + vs.length ≤ j) ∧ cs[j]? = some c)
  | [], k, cs, j, c, h => .inr ⟨by simp only [List.length_nil]; omega, h⟩
  | v :: vs, k, cs, j, c, h => by
    rw [setAt] at h
    rcases setAt_at h with ⟨h1, h2⟩ | ⟨h1, h2⟩
    · left
      refine ⟨by omega, ?_⟩
      rw [show j - k = (j - (k + 1)) + 1 by omega]
      simpa using h2
    · rw [List.getElem?_set] at h2
      split at h2
      · rename_i e
        subst e
        split at h2
        · left
          exact ⟨Nat.le_refl _, by simpa using h2⟩
        · cases h2
      · right
        refine ⟨?_, h2⟩
        simp only [List.length_cons]
        omega
def okCell : AV → Prop
  | .v u => one u
  | .rd .. | .rp .. | .ref _ | .ptr .. | .ifc .. | .fn .. => True
  | _ => False
theorem okCell_box {c : AV} (h : okBox c = true) : okCell c := by
  cases c <;> simp_all [okBox, okCell, oneB_iff]
theorem okCell_cl {c : AV} {x : AV × List Id} (h : s.clC c = some x) : okCell c := by
  cases c with
  | v u =>
    simp only [St.clC] at h
    exact oneB_iff.1 (sel_eq_some h).1
  | rd => trivial
  | ref => trivial
  | ifc => trivial
  | fn => trivial
  | _ => cases h
theorem okCell_clL : ∀ {cs : List AV} {x : List AV × List Id}, s.clL cs = some x → ∀ c ∈ cs, okCell c
  | [], _, _, c, hc => by simp at hc
  | d :: cs, x, h, c, hc => by
    simp only [St.clL] at h
    obtain ⟨y, hy, h⟩ := bindO_eq h
    obtain ⟨z, hz, _⟩ := bindO_eq h
    rcases List.mem_cons.1 hc with rfl | hc
    · exact okCell_cl hy
    · exact okCell_clL hz c hc
theorem okCell_one {C : Cx} {cl : Bool} {md : Md} {c : AV} {y : Value} (h : okCell c) (hr : Rep C cl md c y) : one y := by
  cases c with
  | v u => rw [hr.1]; exact h
  | rd => obtain ⟨_, _, A, c, rfl, _⟩ := hr; trivial
  | rp => obtain ⟨_, _, b, o, rfl, _⟩ := hr; trivial
  | ref => exact hr.2.1
  | ptr => obtain ⟨_, _, g, o, _, rfl⟩ := hr; trivial
  | ifc => obtain ⟨_, rfl, _⟩ := hr; trivial
  | fn => obtain ⟨_, rfl, _⟩ := hr; trivial
  | _ => exact h.elim
theorem cells_one {y : Value} (h : one y) : y.cells = #[y] := by cases y <;> first | rfl | exact h.elim
theorem cells_rep {C : Cx} {av : AV} {v : Value} (hr : Rep C false (.read .ent) av v) (hok : ∀ c ∈ av.cells, okCell c) : RepVs C false (.read .ent) 0 av.cells v.cells.toList := by
  have key : av.cells = [av] → RepVs C false (.read .ent) 0 av.cells v.cells.toList := fun e => by
    have h1 := okCell_one (hok av (by rw [e]; simp)) hr
    rw [e, cells_one h1]
    exact ⟨v, [], rfl, hr, rfl⟩
  cases av with
  | agg cs => obtain ⟨vs, rfl, h⟩ := hr; exact h
  | _ => exact key rfl
end
end Go.Ev
set_option linter.unusedVariables false
set_option linter.unusedSimpArgs false
namespace Go.Ev
open Go Go.RowKit
variable {W0 : Bs} {S F : Nat → Prop} {n : Nat} {L : Nat → Option Id} {m : Id → Value} {s : St} {a : Act} {w : World}
def nav (w : World) : List Nat → Value → Value
  | [], v => v
  | k :: p, .agg vs => nav w p (vs.getD k undef)
  | k :: p, .tuple vs => nav w p (vs.getD k undef)
  | 0 :: _, .pointer a => .pointer a
  | 1 :: k :: p, .pointer (some a) => nav w p ((w.cell? ⟨a.block, k, none⟩).getD undef)
  | _ :: _, _ => undef
theorem opnC_sound {C' : Cx} {id : Id} {q : Nat} {c : AV} {y : Value} (hr : Rep C' true (.own (id ++ [q])) c y) (hm : C'.m (id ++ [q]) = y) (hl : ∀ x ∈ (opnC id q c).2, C'.live x.1) : Rep C' false (.read .ent) (opnC id q c).1 y ∧ (∀ x ∈ (opnC id q c).2, RepOb C' x.1 x.2) := by
  cases c with
  | any => exact ⟨trivial, fun x h => by simp [opnC] at h⟩
  | v u => exact ⟨hr, fun x h => by simp [opnC] at h⟩
  | row e sz els =>
    have h1 : one y := by obtain ⟨A, c, rfl, _⟩ := hr; trivial
    refine ⟨⟨rfl, h1, hl (id ++ [q], .row e sz els) (by simp [opnC]), hm.symm⟩, fun x h => ?_⟩
    simp only [opnC, List.mem_singleton] at h
    subst h
    show Rep C' true (.own (id ++ [q])) _ (C'.m (id ++ [q]))
    rw [hm]; exact hr
  | rd o e sz els =>
    exact ⟨⟨by simp, hr.2⟩, fun x h => by simp [opnC] at h⟩
  | rp => exact absurd hr.1 (by simp)
  | ref => exact absurd hr.1 (by simp)
  | ptr => exact absurd hr.1 (by simp)
  | agg => exact ⟨trivial, fun x h => by simp [opnC] at h⟩
  | tup => exact ⟨trivial, fun x h => by simp [opnC] at h⟩
  | bx => exact ⟨trivial, fun x h => by simp [opnC] at h⟩
  | ifc t a =>
    refine ⟨?_, fun x h => by simp [opnC] at h⟩
    show Rep C' false (.read .ent) (sel a.clB (.ifc t a) .any) y
    cases hb : a.clB with
    | true => exact Rep.loose _ _ (clB_tr (Stays.refl C') (md := .read .ent) (a := .ifc t a) (by simpa [AV.clB] using hb) hr)
    | false => trivial
  | fn f cs =>
    refine ⟨?_, fun x h => by simp [opnC] at h⟩
    show Rep C' false (.read .ent) (sel (clBL cs) (.fn f cs) .any) y
    cases hb : clBL cs with
    | true => exact Rep.loose _ _ (clB_tr (Stays.refl C') (md := .read .ent) (a := .fn f cs) (by simpa [AV.clB] using hb) hr)
    | false => trivial
theorem opnCs_sound {C' : Cx} {id : Id} : ∀ {cs : List AV} {vs : List Value} {q : Nat}, RepVs C' true (.own id) q cs vs → (∀ j y, vs[j]? = some y → C'.m (id ++ [q + j]) = y) → (∀ x ∈ (opnCs id q cs).2, C'.live x.1) → ∀ q', RepVs C' false (.read .ent) q' (opnCs id q cs).1 vs ∧ (∀ x ∈ (opnCs id q cs).2, RepOb C' x.1 x.2)
  | [], vs, q, hr, _, _, q' => ⟨hr, fun x h => by simp [opnCs] at h⟩
  | c :: cs, vs, q, hr, hm, hl, q' => by
    obtain ⟨y, ys, rfl, h1, h2⟩ := hr
    obtain ⟨g1, g2⟩ := opnC_sound h1 (by simpa using hm 0 y (by simp)) (fun x hx => hl x (by simp [opnCs, hx]))
    obtain ⟨g3, g4⟩ := opnCs_sound h2 (fun j y' hj => by have := hm (j + 1) y' (by simpa using hj); rwa [show q + (j + 1) = q + 1 + j by omega] at this) (fun x hx => hl x (by simp [opnCs, hx])) (q' + 1)
    refine ⟨⟨y, ys, rfl, g1, g3⟩, fun x hx => ?_⟩
    simp only [opnCs, List.mem_append] at hx
    exact hx.elim (g2 x) (g4 x)
theorem opnCs_mem {C' : Cx} {id : Id} {b : Nat} : ∀ {cs : List AV} {off q : Nat}, RepCs C' true (.own id) b off q cs → (∀ j y, C'.w.cell? ⟨b, off + j, none⟩ = some y → C'.m (id ++ [q + j]) = y) → (∀ x ∈ (opnCs id q cs).2, C'.live x.1) → ∀ q', RepCs C' false (.read .ent) b off q' (opnCs id q cs).1 ∧ (∀ x ∈ (opnCs id q cs).2, RepOb C' x.1 x.2)
  | [], off, q, hr, _, _, q' => ⟨hr, fun x h => by simp [opnCs] at h⟩
  | c :: cs, off, q, hr, hm, hl, q' => by
    obtain ⟨⟨y, h0, h1, h2⟩, h3⟩ := hr
    obtain ⟨g1, g2⟩ := opnC_sound h2 (by simpa using hm 0 y (by simpa using h0)) (fun x hx => hl x (by simp [opnCs, hx]))
    obtain ⟨g3, g4⟩ := opnCs_mem h3 (fun j y' hj => by have := hm (j + 1) y' (by rwa [show off + (j + 1) = off + 1 + j by omega]); rwa [show q + (j + 1) = q + 1 + j by omega] at this) (fun x hx => hl x (by simp [opnCs, hx])) (q' + 1)
    refine ⟨⟨⟨y, h0, h1, g1⟩, g3⟩, fun x hx => ?_⟩
    simp only [opnCs, List.mem_append] at hx
    exact hx.elim (g2 x) (g4 x)
theorem opnCs_length (id : Id) : ∀ (cs : List AV) (q : Nat), (opnCs id q cs).1.length = cs.length
  | [], _ => rfl
  | c :: cs, q => by simp [opnCs, opnCs_length id cs (q + 1)]
theorem nav_list (id : Id) {vs : Array Value} {C' : Cx} {w : World} (hm : ∀ p, C'.m (id ++ p) = nav w p (.agg vs) ∨ C'.m (id ++ p) = nav w p (.tuple vs)) : ∀ j y, vs.toList[j]? = some y → C'.m (id ++ [j]) = y := fun j y hj => by
  have : vs[j]? = some y := by simpa using hj
  rcases hm [j] with h | h <;> (rw [h]; simp [nav, this])
theorem opn_bx {C' : Cx} {id : Id} {t : Nat} {cs : List AV} {y : Value} (hr : Rep C' true (.own id) (.bx t cs) y) (hm : ∀ p, C'.m (id ++ p) = nav C'.w p y) (h0 : C'.live (id ++ [0])) (hl : ∀ x ∈ (opnCs (id ++ [1]) 0 cs).2, C'.live x.1) :
    Rep C' false (.read .ent) (.ptr (id ++ [0]) 0 0 0) y ∧ RepOb C' (id ++ [0]) (.box t (opnCs (id ++ [1]) 0 cs).1) ∧ (∀ x ∈ (opnCs (id ++ [1]) 0 cs).2, RepOb C' x.1 x.2) := by
  obtain ⟨g, arr, rfl, h1, h2, h3, h4⟩ := hr
  have hm0 : C'.m (id ++ [0]) = .pointer (some ⟨g, 0, none⟩) := by rw [hm]; rfl
  obtain ⟨g1, g2⟩ := opnCs_mem h4 (fun j y hj => by
    rw [List.append_assoc, hm, Nat.zero_add]
    show nav C'.w [] ((C'.w.cell? ⟨g, j, none⟩).getD undef) = y
    rw [Nat.zero_add] at hj
    rw [hj]; rfl) hl 0
  exact ⟨⟨rfl, h0, g, 0, by rw [hm0]; rfl, by simp⟩, ⟨g, arr, hm0, h1, h2, by rw [opnCs_length]; exact h3, g1⟩, g2⟩
theorem opnB_sound {C' : Cx} {id : Id} {q : Nat} {c : AV} {y : Value} (hr : Rep C' true (.own (id ++ [q])) c y) (hm : ∀ p, C'.m (id ++ [q] ++ p) = nav C'.w p y) (hl : ∀ x ∈ (opnB id q c).2, C'.live x.1) : Rep C' false (.read .ent) (opnB id q c).1 y ∧ (∀ x ∈ (opnB id q c).2, RepOb C' x.1 x.2) := by
  have key : opnB id q c = opnC id q c → Rep C' false (.read .ent) (opnB id q c).1 y ∧ (∀ x ∈ (opnB id q c).2, RepOb C' x.1 x.2) := fun e => by
    rw [e] at hl ⊢
    exact opnC_sound hr (by simpa [nav] using hm []) hl
  cases c with
  | agg cs =>
    obtain ⟨vs, rfl, h⟩ := hr
    obtain ⟨g1, g2⟩ := opnCs_sound h (fun j y hj => by rw [Nat.zero_add]; exact nav_list _ (fun p => .inl (hm p)) j y hj) hl 0
    exact ⟨⟨vs, rfl, g1⟩, g2⟩
  | bx t cs =>
    obtain ⟨g1, g2, g3⟩ := opn_bx hr hm (hl (id ++ [q] ++ [0], _) (List.mem_cons_self ..)) (fun x hx => hl x (List.mem_cons_of_mem _ hx))
    refine ⟨g1, fun x hx => ?_⟩
    simp only [opnB, List.mem_cons] at hx
    rcases hx with rfl | hx
    · exact g2
    · exact g3 x hx
  | _ => exact key rfl
theorem opnL_sound {C' : Cx} {id : Id} : ∀ {cs : List AV} {vs : List Value} {q : Nat}, RepVs C' true (.own id) q cs vs → (∀ j y, vs[j]? = some y → ∀ p, C'.m (id ++ [q + j] ++ p) = nav C'.w p y) → (∀ x ∈ (opnL id q cs).2, C'.live x.1) → ∀ q', RepVs C' false (.read .ent) q' (opnL id q cs).1 vs ∧ (∀ x ∈ (opnL id q cs).2, RepOb C' x.1 x.2)
  | [], vs, q, hr, _, _, q' => ⟨hr, fun x h => by simp [opnL] at h⟩
  | c :: cs, vs, q, hr, hm, hl, q' => by
    obtain ⟨y, ys, rfl, h1, h2⟩ := hr
    obtain ⟨g1, g2⟩ := opnB_sound h1 (fun p => by simpa using hm 0 y (by simp) p) (fun x hx => hl x (by simp [opnL, hx]))
    obtain ⟨g3, g4⟩ := opnL_sound h2 (fun j y' hj p => by have := hm (j + 1) y' (by simpa using hj) p; rwa [show q + (j + 1) = q + 1 + j by omega] at this) (fun x hx => hl x (by simp [opnL, hx])) (q' + 1)
    refine ⟨⟨y, ys, rfl, g1, g3⟩, fun x hx => ?_⟩
    simp only [opnL, List.mem_append] at hx
    exact hx.elim (g2 x) (g4 x)
theorem opnA_sound {C' : Cx} {d : Nat} {c : AV} {y : Value} (hr : Rep C' true (.own [d]) c y) (hm : ∀ p, C'.m ([d] ++ p) = nav C'.w p y) (hl : ∀ x ∈ (opnA d c).2, C'.live x.1) : Rep C' false (.read .ent) (opnA d c).1 y ∧ (∀ x ∈ (opnA d c).2, RepOb C' x.1 x.2) := by
  have hm0 : C'.m [d] = y := by simpa [nav] using hm []
  cases c with
  | row e sz els =>
    have h1 : one y := by obtain ⟨A, c, rfl, _⟩ := hr; trivial
    refine ⟨⟨rfl, h1, hl ([d], .row e sz els) (by simp [opnA]), hm0.symm⟩, fun x h => ?_⟩
    simp only [opnA, List.mem_singleton] at h
    subst h
    show Rep C' true (.own [d]) _ (C'.m [d])
    rw [hm0]; exact hr
  | agg cs =>
    obtain ⟨vs, rfl, h⟩ := hr
    obtain ⟨g1, g2⟩ := opnCs_sound h (fun j y hj => by rw [Nat.zero_add]; exact nav_list _ (fun p => .inl (hm p)) j y hj) hl 0
    exact ⟨⟨vs, rfl, g1⟩, g2⟩
  | tup cs =>
    obtain ⟨vs, rfl, h⟩ := hr
    obtain ⟨g1, g2⟩ := opnL_sound h (fun j y hj p => by
      rw [Nat.zero_add, List.append_assoc, hm ([j] ++ p)]
      have : vs[j]? = some y := by simpa using hj
      simp [nav, this]) hl 0
    exact ⟨⟨vs, rfl, g1⟩, g2⟩
  | bx t cs =>
    obtain ⟨g1, g2, g3⟩ := opn_bx (id := [d]) hr hm (hl ([d, 0], _) (List.mem_cons_self ..)) (fun x hx => hl x (List.mem_cons_of_mem _ hx))
    refine ⟨g1, fun x hx => ?_⟩
    simp only [opnA, List.mem_cons] at hx
    rcases hx with rfl | hx
    · exact g2
    · exact g3 x hx
  | _ => exact opnC_sound (id := []) hr hm0 hl
theorem opnC_key {id : Id} {q : Nat} {c : AV} : ∀ x ∈ (opnC id q c).2, x.1 = id ++ [q] := by
  cases c <;> simp [opnC]
theorem opnCs_key {id : Id} : ∀ {cs : List AV} {q : Nat}, ∀ x ∈ (opnCs id q cs).2, ∃ k, q ≤ k ∧ x.1 = id ++ [k]
  | [], q, x, h => by simp [opnCs] at h
  | c :: cs, q, x, h => by
    simp only [opnCs, List.mem_append] at h
    rcases h with h | h
    · exact ⟨q, Nat.le_refl _, opnC_key x h⟩
    · obtain ⟨k, h1, h2⟩ := opnCs_key x h
      exact ⟨k, by omega, h2⟩
theorem cmp_cons {p r r' : Id} {k k' : Nat} (h : cmp (p ++ [k] ++ r) (p ++ [k'] ++ r') = true) : k = k' ∧ cmp r r' = true := by
  simp only [cmp, Bool.or_eq_true, List.isPrefixOf_iff_prefix, List.append_assoc, List.prefix_append_right_inj] at h ⊢
  simpa [List.cons_prefix_cons, eq_comm, ← and_or_left] using h
theorem opnCs_ind {id : Id} {cs : List AV} {q : Nat} : ∀ x ∈ (opnCs id q cs).2, ∀ y ∈ (opnCs id q cs).2, cmp x.1 y.1 = true → x.1 = y.1 := by
  intro x hx y hy hc
  obtain ⟨k, _, h1⟩ := opnCs_key x hx
  obtain ⟨k', _, h2⟩ := opnCs_key y hy
  rw [h1, h2] at hc ⊢
  have hkk := (cmp_cons (p := id) (k := k) (k' := k') (r := []) (r' := []) (by simpa using hc)).1
  rw [hkk]
theorem opn_bx_ind {id : Id} {ob : OB} {cs : List AV} : ∀ x ∈ (id ++ [0], ob) :: (opnCs (id ++ [1]) 0 cs).2, ∀ y ∈ (id ++ [0], ob) :: (opnCs (id ++ [1]) 0 cs).2, cmp x.1 y.1 = true → x.1 = y.1 := by
  intro x hx y hy hc
  rcases List.mem_cons.1 hx with rfl | hx <;> rcases List.mem_cons.1 hy with rfl | hy
  · rfl
  · obtain ⟨k, _, h2⟩ := opnCs_key y hy
    rw [h2] at hc
    have := (cmp_cons (p := id) (k := 0) (k' := 1) (r := []) (r' := [k]) (by simpa using hc)).1
    omega
  · obtain ⟨k, _, h2⟩ := opnCs_key x hx
    rw [h2] at hc
    have := (cmp_cons (p := id) (k := 1) (k' := 0) (r := [k]) (r' := []) (by simpa using hc)).1
    omega
  · exact opnCs_ind x hx y hy hc
theorem opnB_key {id : Id} {q : Nat} {c : AV} : ∀ x ∈ (opnB id q c).2, ∃ r, x.1 = id ++ [q] ++ r := by
  intro x hx
  cases c with
  | agg cs =>
    obtain ⟨k, _, h⟩ := opnCs_key x hx
    exact ⟨[k], h⟩
  | bx t cs =>
    simp only [opnB, List.mem_cons] at hx
    rcases hx with rfl | hx
    · exact ⟨[0], rfl⟩
    · obtain ⟨k, _, h⟩ := opnCs_key x hx
      exact ⟨[1, k], by rw [h]; simp⟩
  | _ => exact ⟨[], by simpa using opnC_key x hx⟩
theorem opnL_key {id : Id} : ∀ {cs : List AV} {q : Nat}, ∀ x ∈ (opnL id q cs).2, ∃ k, q ≤ k ∧ ∃ r, x.1 = id ++ [k] ++ r
  | [], q, x, h => by simp [opnL] at h
  | c :: cs, q, x, h => by
    simp only [opnL, List.mem_append] at h
    rcases h with h | h
    · exact ⟨q, Nat.le_refl _, opnB_key x h⟩
    · obtain ⟨k, h1, h2⟩ := opnL_key x h
      exact ⟨k, by omega, h2⟩
theorem opnB_ind {id : Id} {q : Nat} {c : AV} : ∀ x ∈ (opnB id q c).2, ∀ y ∈ (opnB id q c).2, cmp x.1 y.1 = true → x.1 = y.1 := by
  intro x hx y hy hc
  cases c with
  | agg cs => exact opnCs_ind x hx y hy hc
  | bx t cs => exact opn_bx_ind x hx y hy hc
  | _ => exact (opnC_key x hx).trans (opnC_key y hy).symm
theorem opnL_ind {id : Id} : ∀ {cs : List AV} {q : Nat}, ∀ x ∈ (opnL id q cs).2, ∀ y ∈ (opnL id q cs).2, cmp x.1 y.1 = true → x.1 = y.1
  | [], q, x, h => by simp [opnL] at h
  | c :: cs, q, x, h => by
    intro y hy hc
    simp only [opnL, List.mem_append] at h hy
    rcases h with h | h <;> rcases hy with hy | hy
    · exact opnB_ind x h y hy hc
    · obtain ⟨r, h1⟩ := opnB_key x h
      obtain ⟨k, h2, r', h3⟩ := opnL_key y hy
      rw [h1, h3] at hc
      have := (cmp_cons hc).1
      omega
    · obtain ⟨r, h1⟩ := opnB_key y hy
      obtain ⟨k, h2, r', h3⟩ := opnL_key x h
      rw [h1, h3] at hc
      have := (cmp_cons hc).1
      omega
    · exact opnL_ind x h y hy hc
theorem opnA_key {d : Nat} {c : AV} : ∀ x ∈ (opnA d c).2, ∃ r, x.1 = [d] ++ r := by
  intro x hx
  cases c with
  | row => exact ⟨[], by simp [opnA] at hx; simp [hx]⟩
  | agg cs => obtain ⟨k, _, h⟩ := opnCs_key x hx; exact ⟨[k], h⟩
  | tup cs => obtain ⟨k, _, r, h⟩ := opnL_key x hx; exact ⟨[k] ++ r, by simpa using h⟩
  | bx t cs => exact opnB_key (id := []) (c := .bx t cs) x hx
  | _ => exact ⟨[], by simpa using opnC_key (id := []) x hx⟩
theorem opnA_ind {d : Nat} {c : AV} : ∀ x ∈ (opnA d c).2, ∀ y ∈ (opnA d c).2, cmp x.1 y.1 = true → x.1 = y.1 := by
  intro x hx y hy hc
  cases c with
  | row => simp [opnA] at hx hy; rw [hx, hy]
  | agg cs => exact opnCs_ind x hx y hy hc
  | tup cs => exact opnL_ind x hx y hy hc
  | bx t cs => exact opnB_ind (id := []) (c := .bx t cs) x hx y hy hc
  | _ => exact (opnC_key (id := []) x hx).trans (opnC_key (id := []) y hy).symm
theorem updL_some {id : Id} {ob : OB} : ∀ {l : List (Id × OB)} {σ : Id → Option OB}, updL σ l id = some ob → (id, ob) ∈ l ∨ (σ id = some ob ∧ ∀ x ∈ l, x.1 ≠ id)
  | [], σ, h => .inr ⟨h, fun x hx => by simp at hx⟩
  | x :: l, σ, h => by
    rcases updL_some (l := l) (show updL (updS σ x.1 x.2) l id = some ob from h) with h1 | ⟨h1, h2⟩
    · exact .inl (List.mem_cons_of_mem _ h1)
    · unfold updS at h1
      by_cases e : id = x.1
      · subst e
        simp only [beq_self_eq_true, sel, Option.some.injEq] at h1
        exact .inl (by rw [← h1]; simp)
      · have e1 : (id == x.1) = false := by simpa using e
        rw [e1] at h1
        exact .inr ⟨h1, fun y hy => by rcases List.mem_cons.1 hy with rfl | hy; exact fun e' => e e'.symm; exact h2 y hy⟩
theorem updL_live {l : List (Id × OB)} : ∀ {σ : Id → Option OB} {id : Id}, ((σ id).isSome = true ∨ ∃ ob, (id, ob) ∈ l) → (updL σ l id).isSome = true := by
  induction l with
  | nil => intro σ id h; rcases h with h | ⟨ob, h⟩; exact h; simp at h
  | cons x l ih =>
    intro σ id h
    refine ih (σ := updS σ x.1 x.2) ?_
    rcases h with h | ⟨ob, h⟩
    · left
      unfold updS
      cases e : (id == x.1) with
      | true => rfl
      | false => exact h
    · rcases List.mem_cons.1 h with rfl | h
      · left; simp [updS, sel]
      · exact .inr ⟨ob, h⟩
def Lift (W0 : Bs) (S F : Nat → Prop) (n : Nat) (K : St → Prop) : Act → World → Prop := fun a w => ∃ s', Rel W0 S F n s' a w ∧ K s'
theorem RelC.result (R : RelC W0 S F n L m s a w) {d : Nat} (hd : d < n) {r : AV} {v : Value} {Ld L2 : Nat → Option Id} (hL2 : ∀ b, L2 b = match Ld b with | some p => some p | none => L b)
    (hlabd : ∀ b p, Ld b = some p → W0.ok b ∧ b < w.heap.size ∧ L b = none) (hrep : ∀ m' σ', Rep (cx w S F L2 m' σ') true (.own [d]) r v) : Rel W0 S F n (s.ret (some d) r) (a.put (some d) v) w := by
  let m' : Id → Value := fun id => match id with | x :: p => if x = d then nav w p v else m (x :: p) | [] => m []
  let σ' := updL (killS s.σ [[d]] [[d]]) (opnA d r).2
  have hm' : ∀ p, m' ([d] ++ p) = nav w p v := fun p => by simp [m']
  have hk : Keep (cx w S F L m s.σ) (cx w S F L2 m' σ') [[d]] [[d]] := by
    refine ⟨⟨fun b h => ⟨h, rfl⟩, fun b h => ⟨h, rfl⟩⟩, fun _ h => h, fun y hy hl => ⟨?_, ?_⟩, fun y hy hl b q hb => ⟨?_, rfl⟩⟩
    · exact updL_live (.inl (killS_isSome.2 ⟨hy, hl⟩))
    · cases y with
      | nil => simp [hit, cmp] at hy
      | cons x p =>
        have : x ≠ d := fun e => by subst e; simp [hit, cmp] at hy
        show (if x = d then nav w p v else m (x :: p)) = m (x :: p)
        rw [if_neg this]
    · have hb' : L b = some (y ++ q) := hb
      show L2 b = some (y ++ q)
      rw [hL2]
      cases hLd : Ld b with
      | none => exact hb'
      | some p => rw [(hlabd b p hLd).2.2] at hb'; cases hb'
  obtain ⟨g1, g2⟩ := opnA_sound (hrep m' σ') hm' (fun x hx => updL_live (.inr ⟨x.2, hx⟩))
  have hcross : ∀ x ∈ (opnA d r).2, ∀ y, hit [[d]] y = false → cmp x.1 y = false := fun x hx y hy => by
    obtain ⟨p, hp⟩ := opnA_key x hx
    cases hc : cmp x.1 y with
    | false => rfl
    | true =>
      rw [hp] at hc
      have : cmp [d] y = true := by
        simp only [cmp, Bool.or_eq_true, List.isPrefixOf_iff_prefix] at hc ⊢
        rcases hc with ⟨z, hz⟩ | ⟨z, hz⟩
        · exact .inl ⟨p ++ z, by rw [← hz]; simp⟩
        · cases y with
          | nil => exact .inr ⟨[d], rfl⟩
          | cons u y =>
            have : u = d := by simpa using congrArg List.head? hz
            subst this
            exact .inl ⟨y, rfl⟩
      rw [show cmp [d] y = hit [[d]] y by simp [hit]] at this
      rw [hy] at this; cases this
  refine ⟨L2, m', ?_⟩
  refine ⟨by simpa [Act.put] using R.size, R.defers, fun k => ?_, fun id ob hob => ?_, fun b p hb => ?_, fun x y hx hy hc => ?_, R.old, R.below⟩
  · show Rep (cx w S F L2 m' σ') false (.read .ent) (upd (killE s.env [[d]] [[d]]) d (opnA d r).1 k) ((a.tmps.setIfInBounds d v).getD k undef)
    have hd' : d < a.tmps.size := by rw [R.size]; exact hd
    unfold upd
    by_cases e : k = d
    · subst e
      simpa [Array.getD, hd', sel] using g1
    · have e1 : (k == d) = false := by simpa using e
      have e2 : (a.tmps.setIfInBounds d v).getD k undef = a.tmps.getD k undef := by
        simp [Array.getD_eq_getD_getElem?, Ne.symm e]
      rw [e1, e2]
      exact Rep.keep hk _ _ (R.env k)
  · rcases updL_some hob with h1 | ⟨h1, _⟩
    · exact g2 _ h1
    · obtain ⟨hj, ob0, h0, rfl⟩ := killS_some h1
      exact RepOb.keep hk hj (show (s.σ id).isSome = true by rw [h0]; rfl) (R.obj id ob0 h0)
  · rw [hL2] at hb
    cases hLd : Ld b with
    | none => rw [hLd] at hb; exact R.lab b p hb
    | some p' => exact ⟨(hlabd b p' hLd).1, (hlabd b p' hLd).2.1⟩
  · obtain ⟨o1, h1⟩ := Option.isSome_iff_exists.1 hx
    obtain ⟨o2, h2⟩ := Option.isSome_iff_exists.1 hy
    rcases updL_some (show updL (killS s.σ [[d]] [[d]]) (opnA d r).2 x = some o1 from h1) with h1 | ⟨h1, _⟩ <;> rcases updL_some (show updL (killS s.σ [[d]] [[d]]) (opnA d r).2 y = some o2 from h2) with h2 | ⟨h2, _⟩
    · exact opnA_ind _ h1 _ h2 hc
    · rw [hcross _ h1 y (killS_some h2).1] at hc; cases hc
    · rw [cmp_symm, hcross _ h2 x (killS_some h1).1] at hc; cases hc
    · exact R.ind x y (by obtain ⟨_, _, g, _⟩ := killS_some h1; rw [g]; rfl) (by obtain ⟨_, _, g, _⟩ := killS_some h2; rw [g]; rfl) hc
variable {P : Program} {H : Nat → Nat} {K : St → Prop}
def tkP (id : Id) (pos n : Nat) (p : Id) : Option (Nat × Id) :=
  if id.isPrefixOf p = true then (match p.drop id.length with
    | x :: r => if pos ≤ x ∧ x < pos + n then some (x - pos, r) else none
    | [] => none)
  else none
theorem tkP_app (id : Id) (pos n x : Nat) (r : Id) : tkP id pos n (id ++ x :: r) = if pos ≤ x ∧ x < pos + n then some (x - pos, r) else none := by
  unfold tkP
  rw [if_pos (List.isPrefixOf_iff_prefix.2 (List.prefix_append _ _)), List.drop_left]
theorem tkP_self (id : Id) (pos n : Nat) : tkP id pos n id = none := by
  unfold tkP
  rw [if_pos (List.isPrefixOf_iff_prefix.2 (List.prefix_refl _)), List.drop_length]
theorem tkP_some {id p : Id} {pos n : Nat} {x : Nat × Id} (h : tkP id pos n p = some x) : p = id ++ (pos + x.1) :: x.2 ∧ x.1 < n := by
  unfold tkP at h
  split at h
  · rename_i hp
    obtain ⟨t, rfl⟩ := List.isPrefixOf_iff_prefix.1 hp
    rw [List.drop_left] at h
    cases t with
    | nil => cases h
    | cons z t =>
      simp only at h
      split at h
      · rename_i hz
        obtain rfl := Option.some.inj h
        refine ⟨?_, by show z - pos < n; omega⟩
        show id ++ z :: t = id ++ (pos + (z - pos)) :: t
        rw [show pos + (z - pos) = z by omega]
      · cases h
  · cases h
def tkL1 (L : Nat → Option Id) (id : Id) (pos n : Nat) : Nat → Option Id := fun b => match L b with | some p => (match tkP id pos n p with | some _ => none | none => some p) | none => none
def tkLd (L : Nat → Option Id) (id : Id) (pos n : Nat) (f : Nat → Id → Id) : Nat → Option Id := fun b => match L b with | some p => (match tkP id pos n p with | some x => some (f x.1 x.2) | none => none) | none => none
theorem tkL1_at {L : Nat → Option Id} {id : Id} {pos n b : Nat} {p : Id} (h : L b = some p) (hp : tkP id pos n p = none) : tkL1 L id pos n b = some p := by unfold tkL1; rw [h]; simp only; rw [hp]
theorem tkL1_some {L : Nat → Option Id} {id : Id} {pos n b : Nat} {p : Id} (h : tkL1 L id pos n b = some p) : L b = some p := by
  unfold tkL1 at h
  split at h
  · rename_i p' hp'
    split at h
    · cases h
    · rw [hp', Option.some.inj h]
  · cases h
theorem tkLd_some {L : Nat → Option Id} {id : Id} {pos n b : Nat} {p : Id} {f : Nat → Id → Id} (h : tkLd L id pos n f b = some p) : (∃ q, L b = some q) ∧ tkL1 L id pos n b = none := by
  unfold tkLd at h
  split at h
  · rename_i p' hp'
    split at h
    · rename_i x hx
      refine ⟨⟨p', hp'⟩, ?_⟩
      unfold tkL1
      rw [hp']
      simp only
      rw [hx]
    · cases h
  · cases h
theorem tkLd_at {L : Nat → Option Id} {id : Id} {pos n b j : Nat} {r : Id} {f : Nat → Id → Id} (h : L b = some (id ++ (pos + j) :: r)) (hj : j < n) : tkLd L id pos n f b = some (f j r) := by
  unfold tkLd
  rw [h]
  simp only
  rw [tkP_app, if_pos ⟨by omega, by omega⟩]
  simp only
  rw [show pos + j - pos = j by omega]
theorem repVs_mk {C : Cx} {cl : Bool} {md : Md} : ∀ {cs : List AV} {vs : List Value} {q : Nat}, vs.length = cs.length → (∀ (j : Nat) c, cs[j]? = some c → ∃ y, vs[j]? = some y ∧ Rep C cl (md.sub (q + j)) c y) → RepVs C cl md q cs vs
  | [], vs, q, hl, _ => List.eq_nil_of_length_eq_zero hl
  | c :: cs, [], q, hl, _ => by simp at hl
  | c :: cs, v :: vs, q, hl, h => by
    obtain ⟨y, h1, h2⟩ := h 0 c (by simp)
    obtain rfl : v = y := by simpa using h1
    refine ⟨v, vs, rfl, by simpa using h2, repVs_mk (by simpa using hl) fun j c' hj => ?_⟩
    obtain ⟨y, h1, h2⟩ := h (j + 1) c' (by simpa using hj)
    exact ⟨y, by simpa using h1, by rwa [show q + 1 + j = q + (j + 1) by omega]⟩
theorem take_rel (R : RelC W0 S F n L m s a w) {id : Id} {e sz : Nat} {els : List (List AV)} (hs : s.σ id = some (.row e sz els)) {i k t : Nat} {cs : List AV} (hcs : els[i]? = some cs) (hk : k + t ≤ cs.length) {c g off q : Nat} {arr : Array Value} {fr : Nat × Nat}
    (hm : m id = .slice (some ⟨g, off, none⟩) els.length c) (hL : L g = some id) (hh : w.heap[g]? = some (.cells arr e fr)) (h1 : els.length ≤ c) (h2 : off + c * sz ≤ arr.size) (h3 : unfrozen fr off (c * sz)) (h4 : els.length ≤ BIG)
    (hE : RepEls (cx w S F L m s.σ) (.own id) g off q sz els) :
    RelC W0 S F n (tkL1 L id (q + i * sz + k) t) m ((s.chg [] [id]).obj id (.row e sz (els.set i (setAt (((cs.drop k).take t).map fun _ => AV.any) k cs)))) a w := by
  have hlive : (s.σ id).isSome = true := by rw [hs]; rfl
  have hil : i < els.length := (List.getElem?_eq_some_iff.1 hcs).1
  obtain ⟨hsz, hC⟩ := hE.at_ hcs
  have trs : ∀ x, ¬ (q + i * sz + k ≤ x ∧ x < q + i * sz + k + t) → ∀ σ', Tr (cx w S F L m s.σ) (cx w S F (tkL1 L id (q + i * sz + k) t) m σ') (.own (id ++ [x])) (.own (id ++ [x])) := fun x hx σ' b r hb => by
    have hb : L b = some (id ++ [x] ++ r) := hb
    rw [List.append_assoc] at hb
    refine ⟨?_, rfl⟩
    show tkL1 L id _ t b = some (id ++ [x] ++ r)
    rw [List.append_assoc]
    exact tkL1_at hb ((tkP_app ..).trans (if_neg hx))
  have stays : ∀ σ', Stays (cx w S F L m s.σ) (cx w S F (tkL1 L id (q + i * sz + k) t) m σ') := fun σ' => ⟨fun b h => ⟨h, rfl⟩, fun b h => ⟨h, rfl⟩⟩
  refine R.upd1 (I := []) (J := [id]) (by simp) ⟨stays _, fun _ _ => rfl, fun y _ hl => ⟨?_, rfl⟩, fun y hy hl b p hb => ⟨?_, rfl⟩⟩ ?_ (fun b p hb => R.lab b p (tkL1_some hb)) R.below
  · show (updS (killS s.σ [] [id]) id _ y).isSome = true
    by_cases e1 : y = id
    · subst e1; simp [updS, sel]
    · have e2 : (y == id) = false := by simpa using e1
      unfold updS
      rw [e2]
      refine killS_isSome.2 ⟨?_, hl⟩
      cases hc : hit [id] y with
      | false => rfl
      | true => exact absurd (R.ind y id hl hlive (by rw [cmp_symm]; simpa [hit] using hc)) e1
  · refine tkL1_at hb ?_
    cases ht : tkP id (q + i * sz + k) t (y ++ p) with
    | none => rfl
    | some x =>
      have h5 := (tkP_some ht).1
      have hc : cmp id y = true := cmp_of_append (p := id) (q := y) h5.symm
      have hy : (cmp id y || false) = false := hy
      rw [hc] at hy; cases hy
  · refine ⟨some ⟨g, off, none⟩, c, by rw [List.length_set]; exact hm, .inr ⟨g, off, arr, fr, q, rfl, tkL1_at hL (tkP_self ..), hh, by rw [List.length_set]; exact h1, h2, h3, by rw [List.length_set]; exact h4, RepEls.of fun i' cs' hi' => ?_⟩⟩
    by_cases hii : i' = i
    · subst hii
      rw [List.getElem?_set_self hil] at hi'
      obtain rfl := Option.some.inj hi'
      refine ⟨by rw [setAt_length]; exact hsz, RepCs.of fun j c' hj => ?_⟩
      have hj0 : j < cs.length := by
        have := (List.getElem?_eq_some_iff.1 hj).1
        rwa [setAt_length] at this
      obtain ⟨y, g1, g2, g3⟩ := hC.at_ (k := j) (List.getElem?_eq_getElem hj0)
      refine ⟨y, g1, g2, ?_⟩
      rcases setAt_at hj with ⟨h5, h6⟩ | ⟨h5, h6⟩
      · rw [List.getElem?_map] at h6
        obtain ⟨_, _, rfl⟩ := Option.map_eq_some_iff.1 h6
        exact trivial
      · rw [List.getElem?_eq_getElem hj0] at h6
        obtain rfl := Option.some.inj h6
        rw [List.length_map, List.length_take, List.length_drop] at h5
        exact Rep.tr (stays _) (trs (q + i' * sz + j) (by omega) _) _ _ g3
    · rw [List.getElem?_set_ne (Ne.symm hii)] at hi'
      obtain ⟨hsz', hC'⟩ := hE.at_ hi'
      refine ⟨hsz', RepCs.of fun j c' hj => ?_⟩
      have hjl : j < sz := by
        have := (List.getElem?_eq_some_iff.1 hj).1
        omega
      obtain ⟨y, g1, g2, g3⟩ := hC'.at_ hj
      refine ⟨y, g1, g2, Rep.tr (stays _) (trs (q + i' * sz + j) ?_ _) _ _ g3⟩
      rcases Nat.lt_or_gt_of_ne hii with hlt | hlt
      · have : (i' + 1) * sz ≤ i * sz := Nat.mul_le_mul_right _ hlt
        rw [Nat.add_mul] at this
        omega
      · have : (i + 1) * sz ≤ i' * sz := Nat.mul_le_mul_right _ hlt
        rw [Nat.add_mul] at this
        omega
theorem q_take {o : Oper} {T : TypeId} {x : Operand} (ho : o.op = .load T x) {d : Nat} (hdst : o.dst = some d) (hd : dOk n o.dst) (R : RelC W0 S F n L m s a w) (h : takeOp P T x d s K) : QS false P W0 S F n K o a w := by
  have hdn : d < n := by rw [hdst] at hd; exact hd
  have hx := R.ev x
  obtain ⟨⟨t, ag⟩, ht, h1⟩ := onSome.elim (show onSome _ _ from h)
  rcases onAdr.elim h1 with ⟨_, _, _, _, _, _, _, h2⟩ | ⟨id, sz, i, k, hv, h2⟩
  · exact h2.elim
  rw [hv] at hx
  obtain ⟨_, hl, g', off', hg, he⟩ := hx
  rcases onOB.elim h2 with ⟨e', sz', els, hs, h3⟩ | ⟨_, _, _, h3⟩
  rotate_left
  · exact h3.elim
  obtain ⟨rfl, h4⟩ := h3
  obtain ⟨cs, hcs, h5⟩ := onSome.elim h4
  obtain ⟨⟨ht1, hkt⟩, h6⟩ := h5
  have ht9 : 1 ≤ t := Nat.le_of_ble_eq_true ht1
  have hkt : k + t ≤ cs.length := Nat.le_of_ble_eq_true hkt
  obtain ⟨r, hr, hK⟩ := onSome.elim h6
  obtain ⟨A, c, hm, hR⟩ := R.obj id _ hs
  have hm : m id = .slice A els.length c := hm
  rcases hR with ⟨hh, _⟩ | ⟨g, off, arr, fr, q, rfl, hL, hh, g1, g2, g3, g4, hE⟩
  · rw [hh] at hcs; simp at hcs
  rw [show (cx w S F L m s.σ).m id = m id from rfl, hm] at hg
  simp only [hdrAddr, Option.some.injEq, Addr.mk.injEq] at hg
  obtain ⟨rfl, rfl, _⟩ := hg
  have hL : L g = some id := hL
  have hh : w.heap[g]? = some (.cells arr e' fr) := hh
  have R1 := take_rel R hs hcs hkt hm hL hh g1 g2 g3 g4 hE
  obtain ⟨hsz, hC⟩ := hE.at_ hcs
  have key : ∃ v, (∀ w', Grows w w' → (Instr.loadAt T (.pointer (some ⟨g, off + i * sz' + k, none⟩))).run P w' = .ok v w') ∧
      ∃ f : Nat → Id → Id, ∀ m' σ' L2, (∀ b, L2 b = match tkLd L id (q + i * sz' + k) t f b with | some p => some p | none => tkL1 L id (q + i * sz' + k) t b) → Rep (cx w S F L2 m' σ') true (.own [d]) r v := by
    have stays : ∀ L2 m' σ', Stays (cx w S F L m s.σ) (cx w S F L2 m' σ') := fun _ _ _ => ⟨fun b h => ⟨h, rfl⟩, fun b h => ⟨h, rfl⟩⟩
    unfold cut at hr
    cases ag with
    | true =>
      obtain ⟨_, rfl⟩ := sel_eq_some (show sel (Nat.ble (k + t) cs.length) _ none = some r from hr)
      obtain ⟨vs, v1, v2, _⟩ := RepCs.vals (f := fun _ => AV.any) (cl' := false) (md' := .read .ent) (q' := 0) (fun _ _ _ _ _ => trivial) (fun _ => rfl) ((hC.drop k).take t)
      have vl : vs.length = t := by rw [v1, List.length_take, List.length_drop]; omega
      refine ⟨.agg vs.toArray, fun w' hw' => run_loadAt_agg ht vl (fun j v hj => hw'.cell (v2 j v hj).1), fun j r => [d] ++ j :: r, fun m' σ' L2 hL2 => ⟨vs.toArray, rfl, ?_⟩⟩
      refine repVs_mk (by simp [v1]) fun j c' hj => ?_
      have hjt : j < t := by
        have := (List.getElem?_eq_some_iff.1 hj).1
        simp at this; omega
      have hj' : cs[k + j]? = some c' := by
        have h7 : (((cs.drop k).take t).map fun c => c)[j]? = some c' := hj
        simpa [hjt] using h7
      obtain ⟨y, y1, y2, y3⟩ := hC.at_ hj'
      have hvj : vs[j]? = some y := by
        have hjv : j < vs.length := by omega
        obtain ⟨w1, _⟩ := v2 j vs[j] (List.getElem?_eq_getElem hjv)
        rw [List.getElem?_eq_getElem hjv]
        have y1 : w.cell? ⟨g, off + i * sz' + (k + j), none⟩ = some y := y1
        have w1 : w.cell? ⟨g, off + i * sz' + k + j, none⟩ = some vs[j] := w1
        rw [Nat.add_assoc] at w1
        rw [w1] at y1
        exact y1
      refine ⟨y, by simpa using hvj, Rep.tr (stays L2 m' σ') (md := .own (id ++ [q + i * sz' + (k + j)])) (show Tr _ _ _ (.own ([d] ++ [0 + j])) from fun b r hb => ⟨?_, rfl⟩) _ _ y3⟩
      have hb : L b = some (id ++ [q + i * sz' + (k + j)] ++ r) := hb
      show L2 b = _
      rw [hL2, tkLd_at (j := j) (r := r) (by rw [hb]; simp [Nat.add_assoc]) hjt]
      simp
    | false =>
      obtain ⟨c', hc', rfl⟩ := Option.map_eq_some_iff.1 (show (cs[k]?).map _ = some r from hr)
      obtain ⟨y, y1, y2, y3⟩ := hC.at_ hc'
      refine ⟨y, fun w' hw' => run_loadAt_one ht (hw'.cell y1), fun _ r => [d] ++ r, fun m' σ' L2 hL2 => ?_⟩
      refine Rep.tr (stays L2 m' σ') (md := .own (id ++ [q + i * sz' + k])) (show Tr _ _ _ (.own [d]) from fun b r hb => ⟨?_, rfl⟩) _ _ y3
      have hb : L b = some (id ++ [q + i * sz' + k] ++ r) := hb
      show L2 b = _
      rw [hL2, tkLd_at (j := 0) (r := r) (by rw [hb]; simp) ht9]
  obtain ⟨v, hrun, f, hrep⟩ := key
  have hres := R1.result hdn (r := r) (v := v) (Ld := tkLd L id (q + i * sz' + k) t f) (L2 := fun b => match tkLd L id (q + i * sz' + k) t f b with | some p => some p | none => tkL1 L id (q + i * sz' + k) t b) (fun _ => rfl)
    (fun b p hb => by
      obtain ⟨⟨p', hp'⟩, hn⟩ := tkLd_some hb
      exact ⟨(R.lab b p' hp').1, (R.lab b p' hp').2, hn⟩) (fun m' σ' => hrep m' σ' _ fun _ => rfl)
  refine ⟨v, _, fun w' hw' => ?_, by rw [hdst]; exact hres, hK⟩
  simp only [execOp, ho, he, Sem.run_bind]
  rw [hrun w' (hw'.resolve_left (by simp))]; rfl
theorem q_load {o : Oper} {T : TypeId} {x : Operand} (ho : o.op = .load T x) (hd : dOk n o.dst) (R : RelC W0 S F n L m s a w) (h : opE P H o.dst (.load T x) s K) : QS false P W0 S F n K o a w := by
  have h : ldE P H o.dst T x s K := h
  unfold ldE at h
  split at h
  · rename_i d hdst
    cases hb : H d == 3 with
    | true =>
      rw [hb] at h
      exact q_take ho hdst hd R h
    | false =>
      rw [hb] at h
      exact q_load0 ho hd R (by rw [hdst]; exact h)
  · rename_i hdst
    exact q_load0 ho hd R (by rw [hdst]; exact h)
end Go.Ev
