/- Part 5 of what the row leans on: the evaluator, words, contracts of functions; pruned by a program of ours. -/
import Derived.Test.YtijmbcnhkdhkeaaPd04
import Derived.Deep.AppendSrc
import Derived.Great.BuildSlice
set_option linter.unusedVariables false
set_option linter.unusedSimpArgs false
namespace Go.Ev
open Go Go.RowKit
structure Wrote (w w' : World) (g : Nat) : Prop where
  os : w'.os = w.os
  tape : w'.tape = w.tape
  output : w'.output = w.output
  size : w.heap.size ≤ w'.heap.size
  other : ∀ b, b ≠ g → b < w.heap.size → w'.heap[b]? = w.heap[b]?
  lt : g < w'.heap.size
theorem Wrote.below {B : Bs} {w w' : World} {g : Nat} (h : Wrote w w' g) (hb : B.bel w) (hg : B.ok g) : B.bel w' :=
  ⟨h.os.trans hb.os, h.tape.trans hb.tape, h.output.trans hb.output, Nat.le_trans hb.size h.size, fun k hk => (h.other k (fun e => hk (e ▸ hg)) (Nat.lt_of_lt_of_le (Bs.lt hk) hb.size)).trans (hb.block k hk)⟩
theorem setCells_other (b : Nat) : ∀ (vs : List Value) (o : Nat) (w : World) (k : Nat), k ≠ b → (w.setCells b o vs).heap[k]? = w.heap[k]?
  | [], _, _, _, _ => rfl
  | v :: r, o, w, k, h => by
    rw [World.setCells, setCells_other b r (o + 1) _ k h]
    exact Below.heap_setCell w ⟨b, o, none⟩ v k h
theorem setCells_same (b : Nat) : ∀ (vs : List Value) (o : Nat) (w : World) (arr : Array Value) (e : TypeId) (fr : Nat × Nat), w.heap[b]? = some (.cells arr e fr) → ∃ arr', (w.setCells b o vs).heap[b]? = some (.cells arr' e fr) ∧ arr'.size = arr.size
  | [], _, _, arr, _, _, h => ⟨arr, h, rfl⟩
  | v :: r, o, w, arr, e, fr, h => by
    have h1 : (w.setCell ⟨b, o, none⟩ v).heap[b]? = some (.cells (arr.setIfInBounds o v) e fr) := by
      simp only [World.setCell, Array.getElem?_modify, if_true, h, Option.map_some]
      simp
    obtain ⟨arr', h2, h3⟩ := setCells_same b r (o + 1) _ _ e fr h1
    exact ⟨arr', h2, h3.trans (by simp)⟩
theorem setCells_world (b : Nat) : ∀ (vs : List Value) (o : Nat) (w : World), (w.setCells b o vs).os = w.os ∧ (w.setCells b o vs).tape = w.tape ∧ (w.setCells b o vs).output = w.output ∧ (w.setCells b o vs).heap.size = w.heap.size
  | [], _, _ => ⟨rfl, rfl, rfl, rfl⟩
  | v :: r, o, w => by
    obtain ⟨h1, h2, h3, h4⟩ := setCells_world b r (o + 1) (w.setCell ⟨b, o, none⟩ v)
    exact ⟨h1, h2, h3, h4.trans (World.size_setCell ..)⟩
theorem wrote_setCells {w : World} {b : Nat} (h : b < w.heap.size) (vs : List Value) (o : Nat) : Wrote w (w.setCells b o vs) b := by
  obtain ⟨h1, h2, h3, h4⟩ := setCells_world b vs o w
  exact ⟨h1, h2, h3, by omega, fun k hk _ => setCells_other b vs o w k hk, by omega⟩
theorem wrote_alloc (w : World) (o : Obj) : Wrote w (w.alloc o) w.heap.size := ⟨rfl, rfl, rfl, by simp, fun k _ hk => Below.heap_alloc w o k hk, by simp⟩
theorem wrote_drew_alloc (w : World) (o : Obj) : Wrote w (w.drew.alloc o) w.heap.size := ⟨rfl, rfl, rfl, by simp, fun k _ hk => Below.heap_alloc w.drew o k hk, by simp⟩
theorem alloc_heap (w : World) (o : Obj) : (w.alloc o).heap[w.heap.size]? = some o := by
  show (w.heap.push o)[w.heap.size]? = _
  simp
theorem RepCs.of {C : Cx} {cl : Bool} {md : Md} {b : Nat} : ∀ {cs : List AV} {off q : Nat}, (∀ k c, cs[k]? = some c → ∃ y, C.w.cell? ⟨b, off + k, none⟩ = some y ∧ one y ∧ Rep C cl (md.sub (q + k)) c y) → RepCs C cl md b off q cs
  | [], _, _, _ => trivial
  | c :: cs, off, q, h => ⟨by simpa using h 0 c (by simp), RepCs.of (cs := cs) fun k c' hc => by
      have := h (k + 1) c' (by simpa using hc)
      rwa [show off + 1 + k = off + (k + 1) by omega, show q + 1 + k = q + (k + 1) by omega]⟩
theorem RepEls.of {C : Cx} {md : Md} {b sz : Nat} : ∀ {els : List (List AV)} {off q : Nat}, (∀ i cs, els[i]? = some cs → cs.length = sz ∧ RepCs C true md b (off + i * sz) (q + i * sz) cs) → RepEls C md b off q sz els
  | [], _, _, _ => trivial
  | c :: cs, off, q, h => ⟨(h 0 c (by simp)).1, by simpa using (h 0 c (by simp)).2, RepEls.of (els := cs) fun i c' hc => by
      have := h (i + 1) c' (by simpa using hc)
      rw [show (i + 1) * sz = sz + i * sz by rw [Nat.add_mul, Nat.one_mul, Nat.add_comm]] at this
      rwa [Nat.add_assoc, Nat.add_assoc]⟩
section
variable {P : Program} {H : Nat → Nat} {W0 : Bs} {S F : Nat → Prop} {n : Nat} {L : Nat → Option Id} {m : Id → Value} {s : St} {a : Act} {w : World} {K : St → Prop}
def newL (L : Nat → Option Id) (ρ : Id → Id) (g : Nat) (id : Id) : Nat → Option Id := fun b => if b = g then some id else (L b).map ρ
def newM (m : Id → Value) (id : Id) (hdr : Value) : Id → Value := fun y => if y = id then hdr else m y
theorem keep_wrote (R : RelC W0 S F n L m s a w) {I J : List Id} {id : Id} {ob : OB} {w' : World} {g : Nat} (hw : Wrote w w' g) (hsub : ∀ y, hit J y = false → hit I y = false) (hid : id ∈ J)
    {ρ : Id → Id} (hρ : ∀ y r, hit J y = false → ρ (y ++ r) = y ++ r) (hg : ∀ p, L g = some p → p = id) (hg0 : W0.ok g) {hdr : Value}
    (hkeep : ∀ y, hit I y = false → (s.σ y).isSome = true → hit J y = true → y = id ∧ m id = hdr) :
    Keep (cx w S F L m s.σ) (cx w' S F (newL L ρ g id) (newM m id hdr) (updS (killS s.σ I J) id ob)) I J := by
  have hold : ∀ b, S b ∨ F b → w'.heap[b]? = w.heap[b]? := fun b hb => by
    have h1 := R.old b hb
    exact hw.other b (fun e => h1 (e ▸ hg0)) (Nat.lt_of_lt_of_le (Bs.lt h1) R.below.size)
  refine ⟨⟨fun b hb => ⟨hb, hold b (.inl hb)⟩, fun b hb => ⟨hb, hold b (.inr hb)⟩⟩, hsub, fun y hy hl => ?_, fun y hy hl b q hb => ?_⟩
  · by_cases hj : hit J y = true
    · obtain ⟨rfl, hm⟩ := hkeep y hy hl hj
      refine ⟨?_, ?_⟩
      · show (updS (killS s.σ I J) y ob y).isSome = true
        simp [updS, sel]
      · show newM m y hdr y = m y
        simp [newM, hm]
    · have hj : hit J y = false := by simpa using hj
      have hne : y ≠ id := fun e => by subst e; rw [hit_self hid] at hj; cases hj
      refine ⟨?_, if_neg hne⟩
      show (updS (killS s.σ I J) id ob y).isSome = true
      have e1 : (y == id) = false := by simpa using hne
      unfold updS
      rw [e1]
      exact killS_isSome.2 ⟨hj, hl⟩
  · have hb' : L b = some (y ++ q) := hb
    have hbg : b ≠ g := fun e => by
      subst e
      have h1 : cmp id y = true := cmp_of_append (p := id) (r := []) (q := y) (r' := q) (by simpa using (hg _ hb').symm)
      rw [hit_mem hid hy] at h1
      cases h1
    have := R.lab b _ hb'
    refine ⟨?_, hw.other b hbg this.2⟩
    show newL L ρ g id b = some (y ++ q)
    rw [newL, if_neg hbg, hb', Option.map_some, hρ y q hy]
theorem RelC.wrote (R : RelC W0 S F n L m s a w) {I J : List Id} {id : Id} {ob : OB} {w' : World} {g : Nat} (hw : Wrote w w' g) (hid : id ∈ J) (hg0 : W0.ok g) {ρ : Id → Id} {hdr : Value}
    (k : Keep (cx w S F L m s.σ) (cx w' S F (newL L ρ g id) (newM m id hdr) (updS (killS s.σ I J) id ob)) I J)
    (hob : RepOb (cx w' S F (newL L ρ g id) (newM m id hdr) (updS (killS s.σ I J) id ob)) id ob) : RelC W0 S F n (newL L ρ g id) (newM m id hdr) ((s.chg I J).obj id ob) a w' := by
  refine R.upd1 hid k hob (fun b p hb => ?_) (hw.below R.below hg0)
  unfold newL at hb
  split at hb
  · rename_i e; subst e; exact ⟨hg0, hw.lt⟩
  · obtain ⟨p', hp', _⟩ := Option.map_eq_some_iff.1 hb
    have := R.lab b p' hp'
    exact ⟨this.1, Nat.lt_of_lt_of_le this.2 hw.size⟩
theorem tr_moved' (R : RelC W0 S F n L m s a w) {w' : World} {g : Nat} (hw : Wrote w w' g) {σ' : Id → Option OB} {m' : Id → Value} {id i t : Id} {ρ : Id → Id} (hρ : ∀ r, ρ (i ++ r) = t ++ r) (hi : ∀ b r, L b = some (i ++ r) → b ≠ g) :
    Tr (cx w S F L m s.σ) (cx w' S F (newL L ρ g id) m' σ') (.own i) (.own t) := fun b q hb => by
  have hb' : L b = some (i ++ q) := hb
  have hbg : b ≠ g := hi b q hb'
  have := R.lab b _ hb'
  refine ⟨?_, hw.other b hbg this.2⟩
  show newL L ρ g id b = some (t ++ q)
  rw [newL, if_neg hbg, hb', Option.map_some, hρ q]
theorem tr_moved (R : RelC W0 S F n L m s a w) {w' : World} {g : Nat} (hw : Wrote w w' g) {σ' : Id → Option OB} {m' : Id → Value} {id i t : Id} {ρ : Id → Id} (hg : ∀ p, L g = some p → p = id) (hρ : ∀ r, ρ (i ++ r) = t ++ r) (hi : ∀ r, id ≠ i ++ r) :
    Tr (cx w S F L m s.σ) (cx w' S F (newL L ρ g id) m' σ') (.own i) (.own t) :=
  tr_moved' R hw hρ fun _ r hb e => hi r (by subst e; exact (hg _ hb).symm)
theorem ne_append {i id : Id} (h : cmp i id = false) : ∀ r, id ≠ i ++ r := fun r e => by
  have : cmp i id = true := cmp_of_append (p := i) (r := r) (q := id) (r' := []) (by simpa using e.symm)
  rw [h] at this; cases this
def mvL : List (Id × Id) → Id → Id
  | [], p => p
  | x :: mv, p => if x.1.isPrefixOf p then x.2 ++ p.drop x.1.length else mvL mv p
theorem mvL_out : ∀ {mv : List (Id × Id)} {y : Id}, (∀ x ∈ mv, cmp x.1 y = false) → ∀ r, mvL mv (y ++ r) = y ++ r
  | [], _, _, _ => rfl
  | x :: mv, y, h, r => by
    have h1 : x.1.isPrefixOf (y ++ r) = false := by
      cases hp : x.1.isPrefixOf (y ++ r) with
      | false => rfl
      | true =>
        obtain ⟨z, hz⟩ := List.isPrefixOf_iff_prefix.1 hp
        have := cmp_of_append hz
        rw [h x (by simp)] at this; cases this
    rw [mvL, h1]
    exact mvL_out (fun z hz => h z (by simp [hz])) r
theorem mvL_in : ∀ {mv : List (Id × Id)}, indep (mv.map (·.1)) = true → ∀ {x : Id × Id}, x ∈ mv → ∀ r, mvL mv (x.1 ++ r) = x.2 ++ r
  | [], _, _, hx, _ => by simp at hx
  | z :: mv, hi, x, hx, r => by
    simp only [List.map_cons, indep, Bool.and_eq_true, Bool.not_eq_true'] at hi
    rw [mvL]
    rcases List.mem_cons.1 hx with rfl | hx
    · rw [if_pos (List.isPrefixOf_iff_prefix.2 (List.prefix_append _ _))]
      simp
    · have h1 : z.1.isPrefixOf (x.1 ++ r) = false := by
        cases hp : z.1.isPrefixOf (x.1 ++ r) with
        | false => rfl
        | true =>
          obtain ⟨z', hz⟩ := List.isPrefixOf_iff_prefix.1 hp
          have := cmp_of_append hz
          rw [cmp_symm, hit_mem (List.mem_map.2 ⟨x, hx, rfl⟩) hi.1] at this; cases this
      rw [h1]
      exact mvL_in hi.2 hx r
def mvC (t : Id) : AV → List (Id × Id)
  | .ref i => [(i, t)]
  | _ => []
def mvCs (p : Id) : Nat → List AV → List (Id × Id)
  | _, [] => []
  | q, c :: cs => mvC (p ++ [q]) c ++ mvCs p (q + 1) cs
mutual
/-- What shows nothing of the call's own stands anywhere. -/
theorem clB_tr {C C' : Cx} (hs : Stays C C') {md : Md} {cl : Bool} : ∀ {md0 : Md} {a : AV} {x : Value}, a.clB = true → Rep C cl md0 a x → Rep C' true md a x
  | _, .any, _, h, _ => by cases h
  | _, .v u, _, _, h => h
  | _, .row .., _, h, _ => by cases h
  | _, .rd o e sz els, _, h, hr => by
    have ho : isObj o = false := by simpa [AV.clB] using h
    obtain ⟨_, ⟨ha, _⟩, A, c, rfl, h1, h2, h3⟩ := hr
    have hm' := hs.org o ho
    refine ⟨by simp [ho], ⟨hm'.1 ha, Cx.hdr_of ho⟩, A, c, rfl, h1, h2, ?_⟩
    rcases h3 with h3 | ⟨b, off, rfl, hb, hr⟩
    · exact .inl h3
    · have := hm'.2 b hb
      exact .inr ⟨b, off, rfl, this.1, RepEls.tr hs hm' els this.2 (.inr rfl) hr⟩
  | _, .rp .., _, h, _ => by cases h
  | _, .ref .., _, h, _ => by cases h
  | _, .ptr .., _, h, _ => by cases h
  | _, .tup .., _, h, _ => by cases h
  | _, .bx .., _, h, _ => by cases h
  | _, .agg cs, _, h, hr => by
    obtain ⟨vs, rfl, hr⟩ := hr
    exact ⟨vs, rfl, clBL_tr hs (by simpa [AV.clB] using h) hr⟩
  | _, .ifc t a, _, h, hr => by
    obtain ⟨v, rfl, hr⟩ := hr
    exact ⟨v, rfl, clB_tr hs (by simpa [AV.clB] using h) hr⟩
  | _, .fn f cs, _, h, hr => by
    obtain ⟨vs, rfl, hr⟩ := hr
    exact ⟨vs, rfl, clBL_tr hs (by simpa [AV.clB] using h) hr⟩
theorem clBL_tr {C C' : Cx} (hs : Stays C C') {md : Md} {cl : Bool} : ∀ {md0 : Md} {cs : List AV} {vs : List Value} {q q' : Nat}, clBL cs = true → RepVs C cl md0 q cs vs → RepVs C' true md q' cs vs
  | _, [], _, _, _, _, h => h
  | _, c :: cs, _, _, q', h, hr => by
    obtain ⟨y, ys, rfl, h1, h2⟩ := hr
    simp only [clBL, Bool.and_eq_true] at h
    exact ⟨y, ys, rfl, clB_tr hs h.1 h1, clBL_tr hs h.2 h2⟩
end
theorem clC_mv {c v : AV} {I : List Id} (h : s.clC c = some (v, I)) (t : Id) : (mvC t c).map (·.1) = I := by
  cases c with
  | v u => simp only [St.clC] at h; have := sel_eq_some h; simp at this; simp [mvC, ← this.2.2]
  | rd o e sz els =>
    simp only [St.clC] at h
    cases ho : isObj o <;> rw [ho] at h
    · simp [sel] at h; simp [mvC, ← h.2]
    · cases h
  | ref id =>
    simp only [St.clC, ownRow] at h
    split at h
    · simp at h; simp [mvC, ← h.2]
    · cases h
  | ifc t a => have := (sel_eq_some (show sel _ _ _ = _ from h)).2; simp at this; simp [mvC, ← this.2]
  | fn f cs => have := (sel_eq_some (show sel _ _ _ = _ from h)).2; simp at this; simp [mvC, ← this.2]
  | _ => cases h
theorem clL_mv : ∀ {cs vs : List AV} {I : List Id}, s.clL cs = some (vs, I) → ∀ (p : Id) (q : Nat), (mvCs p q cs).map (·.1) = I
  | [], vs, I, h, p, q => by simp [St.clL] at h; simp [mvCs, h.2]
  | c :: cs, vs, I, h, p, q => by
    simp only [St.clL] at h
    obtain ⟨x, hx, h⟩ := bindO_eq h
    obtain ⟨y, hy, h⟩ := bindO_eq h
    simp only [Option.some.injEq, Prod.mk.injEq] at h
    rw [mvCs, List.map_append, clC_mv (show s.clC c = some (x.1, x.2) from hx), clL_mv (show s.clL cs = some (y.1, y.2) from hy)]
    exact h.2
theorem clC_sound (R : RelC W0 S F n L m s a w) {C' : Cx} (hs : Stays (cx w S F L m s.σ) C') {c v : AV} {I : List Id} (h : s.clC c = some (v, I)) {y : Value} (hr : Rep (cx w S F L m s.σ) false (.read .ent) c y) {t : Id}
    (htr : ∀ x ∈ mvC t c, Tr (cx w S F L m s.σ) C' (.own x.1) (.own x.2)) : Rep C' true (.own t) v y ∧ one y := by
  cases c with
  | v u =>
    simp only [St.clC] at h
    obtain ⟨h1, h2⟩ := sel_eq_some h
    simp only [Prod.mk.injEq] at h2
    rw [← h2.1, hr.1]
    exact ⟨rep_v (oneB_iff.1 h1), oneB_iff.1 h1⟩
  | rd o e sz els =>
    simp only [St.clC] at h
    cases ho : isObj o <;> rw [ho] at h
    · simp only [sel, Option.some.injEq, Prod.mk.injEq] at h
      rw [← h.1]
      obtain ⟨_, ⟨ha, _⟩, A, c, rfl, h1, h2, h3⟩ := hr
      have hm' := hs.org o ho
      refine ⟨⟨by simp [ho], ⟨hm'.1 ha, Cx.hdr_of ho⟩, A, c, rfl, h1, h2, ?_⟩, trivial⟩
      rcases h3 with h3 | ⟨b, off, rfl, hb, hr⟩
      · exact .inl h3
      · have := hm'.2 b hb
        exact .inr ⟨b, off, rfl, this.1, RepEls.tr hs hm' els this.2 (.inr rfl) hr⟩
    · cases h
  | ref id =>
    simp only [St.clC, ownRow] at h
    split at h
    · rename_i e sz els hob
      simp only [Option.some.injEq, Prod.mk.injEq] at h
      rw [← h.1]
      have h1 := R.obj id _ hob
      obtain ⟨_, h2, _, h3⟩ := hr
      rw [h3]
      exact ⟨Rep.tr hs (htr (id, t) (by simp [mvC])) _ _ h1, h3 ▸ h2⟩
    · cases h
  | ifc t' a =>
    obtain ⟨h1, h2⟩ := sel_eq_some (show sel _ _ _ = _ from h)
    simp only [Prod.mk.injEq] at h2
    rw [← h2.1]
    have h3 := clB_tr hs (md := .own t) (a := .ifc t' a) (by simpa [AV.clB] using h1) hr
    exact ⟨h3, by obtain ⟨v, rfl, _⟩ := hr; trivial⟩
  | fn f cs =>
    obtain ⟨h1, h2⟩ := sel_eq_some (show sel _ _ _ = _ from h)
    simp only [Prod.mk.injEq] at h2
    rw [← h2.1]
    have h3 := clB_tr hs (md := .own t) (a := .fn f cs) (by simpa [AV.clB] using h1) hr
    exact ⟨h3, by obtain ⟨v, rfl, _⟩ := hr; trivial⟩
  | _ => cases h
theorem clL_sound (R : RelC W0 S F n L m s a w) {C' : Cx} (hs : Stays (cx w S F L m s.σ) C') {p : Id} : ∀ {cs vs : List AV} {I : List Id}, s.clL cs = some (vs, I) → ∀ {ys : List Value} {q q' : Nat}, RepVs (cx w S F L m s.σ) false (.read .ent) q' cs ys →
    (∀ x ∈ mvCs p q cs, Tr (cx w S F L m s.σ) C' (.own x.1) (.own x.2)) → vs.length = cs.length ∧ ys.length = cs.length ∧ (∀ y ∈ ys, one y) ∧ ∀ j v, vs[j]? = some v → ∃ y, ys[j]? = some y ∧ Rep C' true (.own (p ++ [q + j])) v y
  | [], vs, I, h, ys, q, q', hr, _ => by
    simp [St.clL] at h
    obtain rfl := hr
    simp [h.1]
  | c :: cs, vs, I, h, ys, q, q', hr, ht => by
    simp only [St.clL] at h
    obtain ⟨x, hx, h⟩ := bindO_eq h
    obtain ⟨z, hz, h⟩ := bindO_eq h
    simp only [Option.some.injEq, Prod.mk.injEq] at h
    obtain ⟨y, ys, rfl, hr1, hr2⟩ := hr
    obtain ⟨g1, g2⟩ := clC_sound R hs (show s.clC c = some (x.1, x.2) from hx) hr1 (t := p ++ [q]) (fun z hz => ht z (by simp [mvCs, hz]))
    obtain ⟨g3, g4, g5, g6⟩ := clL_sound (p := p) R hs (show s.clL cs = some (z.1, z.2) from hz) (q := q + 1) hr2 (fun z hz => ht z (by simp [mvCs, hz]))
    rw [← h.1]
    refine ⟨by simp [g3], by simp [g4], fun y' hy' => ?_, fun j v hj => ?_⟩
    · rcases List.mem_cons.1 hy' with rfl | hy'
      · exact g2
      · exact g5 y' hy'
    · cases j with
      | zero => obtain rfl : x.1 = v := by simpa using hj
                exact ⟨y, by simp, by simpa using g1⟩
      | succ j =>
        obtain ⟨y', h1, h2⟩ := g6 j v (by simpa using hj)
        exact ⟨y', by simpa using h1, by rwa [show q + (j + 1) = q + 1 + j by omega]⟩
theorem rep_nilC {C : Cx} {cl : Bool} {p : Id} {v : AV} {y : Value} (h : Rep C cl (.own p) v y) (ty : Option (Nat × Nat)) : Rep C cl (.own p) (nilC ty v) y := by
  unfold nilC
  split
  · exact ⟨none, 0, h.1, .inl ⟨rfl, rfl, rfl⟩⟩
  · exact h
theorem nilL_length : ∀ (ts : List (Option (Nat × Nat))) (vs : List AV), (nilL ts vs).length = vs.length
  | [], vs => by simp [nilL]
  | _ :: _, [] => by simp [nilL]
  | t :: ts, v :: vs => by simp [nilL, nilL_length ts vs]
theorem nilL_at : ∀ {ts : List (Option (Nat × Nat))} {vs : List AV} {j : Nat} {v' : AV}, (nilL ts vs)[j]? = some v' → ∃ ty v, vs[j]? = some v ∧ v' = nilC ty v
  | [], vs, j, v', h => ⟨none, v', by simpa [nilL] using h, by simp [nilC]⟩
  | _ :: _, [], j, v', h => by simp [nilL] at h
  | t :: ts, v :: vs, 0, v', h => ⟨t, v, rfl, by simpa [nilL] using h.symm⟩
  | t :: ts, v :: vs, j + 1, v', h => by
    obtain ⟨ty, u, h1, h2⟩ := nilL_at (ts := ts) (vs := vs) (j := j) (by simpa [nilL] using h)
    exact ⟨ty, u, by simpa using h1, h2⟩
theorem setAt_length : ∀ (vs : List AV) (k : Nat) (cs : List AV), (setAt vs k cs).length = cs.length
  | [], _, _ => rfl
  | v :: vs, k, cs => by rw [setAt, setAt_length vs (k + 1), List.length_set]
theorem setAt_at : ∀ {vs : List AV} {k : Nat} {cs : List AV} {j : Nat} {c : AV}, (setAt vs k cs)[j]? = some c → (k ≤ j ∧ vs[j - k]? = some c) ∨ ((j < k ∨ k + vs.length ≤ j) ∧ cs[j]? = some c)
  | [], k, cs, j, c, h => .inr ⟨by simp only [List.length_nil]; omega, h⟩
  | v :: vs, k, cs, j, c, h => by
    rw [setAt] at h
    rcases setAt_at h with ⟨h1, h2⟩ | ⟨h1, h2⟩
    · left
      refine ⟨by omega, ?_⟩
      rw [show j - k = (j - (k + 1)) + 1 by omega]
      simpa using h2
    · rw [List.getElem?_set] at h2
      split at h2
      · rename_i e
        subst e
        split at h2
        · left
          exact ⟨Nat.le_refl _, by simpa using h2⟩
        · cases h2
      · right
        refine ⟨?_, h2⟩
        simp only [List.length_cons]
        omega
def okCell : AV → Prop
  | .v u => one u
  | .rd .. | .rp .. | .ref _ | .ptr .. | .ifc .. | .fn .. => True
  | _ => False
theorem okCell_box {c : AV} (h : okBox c = true) : okCell c := by
  cases c <;> simp_all [okBox, okCell, oneB_iff]
theorem okCell_cl {c : AV} {x : AV × List Id} (h : s.clC c = some x) : okCell c := by
  cases c with
  | v u =>
    simp only [St.clC] at h
    exact oneB_iff.1 (sel_eq_some h).1
  | rd => trivial
  | ref => trivial
  | ifc => trivial
  | fn => trivial
  | _ => cases h
theorem okCell_clL : ∀ {cs : List AV} {x : List AV × List Id}, s.clL cs = some x → ∀ c ∈ cs, okCell c
  | [], _, _, c, hc => by simp at hc
  | d :: cs, x, h, c, hc => by
    simp only [St.clL] at h
    obtain ⟨y, hy, h⟩ := bindO_eq h
    obtain ⟨z, hz, _⟩ := bindO_eq h
    rcases List.mem_cons.1 hc with rfl | hc
    · exact okCell_cl hy
    · exact okCell_clL hz c hc
theorem okCell_one {C : Cx} {cl : Bool} {md : Md} {c : AV} {y : Value} (h : okCell c) (hr : Rep C cl md c y) : one y := by
  cases c with
  | v u => rw [hr.1]; exact h
  | rd => obtain ⟨_, _, A, c, rfl, _⟩ := hr; trivial
  | rp => obtain ⟨_, _, b, o, rfl, _⟩ := hr; trivial
  | ref => exact hr.2.1
  | ptr => obtain ⟨_, _, g, o, _, rfl⟩ := hr; trivial
  | ifc => obtain ⟨_, rfl, _⟩ := hr; trivial
  | fn => obtain ⟨_, rfl, _⟩ := hr; trivial
  | _ => exact h.elim
theorem cells_one {y : Value} (h : one y) : y.cells = #[y] := by cases y <;> first | rfl | exact h.elim
theorem cells_rep {C : Cx} {av : AV} {v : Value} (hr : Rep C false (.read .ent) av v) (hok : ∀ c ∈ av.cells, okCell c) : RepVs C false (.read .ent) 0 av.cells v.cells.toList := by
  have key : av.cells = [av] → RepVs C false (.read .ent) 0 av.cells v.cells.toList := fun e => by
    have h1 := okCell_one (hok av (by rw [e]; simp)) hr
    rw [e, cells_one h1]
    exact ⟨v, [], rfl, hr, rfl⟩
  cases av with
  | agg cs => obtain ⟨vs, rfl, h⟩ := hr; exact h
  | _ => exact key rfl
end
end Go.Ev
