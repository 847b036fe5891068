/- The evaluator, part 11: calls. -/
import Derived.Test.YtijmbcnhkdhkeaaEvj
set_option linter.unusedVariables false
set_option linter.unusedSimpArgs false
namespace Go.Ev
open Go Go.RowKit
mutual
theorem AV.kill_nil : ∀ a : AV, a.kill [] [] = a
  | .any => rfl
  | .v _ => rfl
  | .row .. => rfl
  | .rd o _ _ _ => by cases o <;> rfl
  | .rp o _ _ _ _ _ => by cases o <;> rfl
  | .ref _ => rfl
  | .ptr .. => rfl
  | .agg cs => congrArg AV.agg (killL_nil cs)
  | .tup cs => congrArg AV.tup (killL_nil cs)
  | .bx .. => rfl
  | .ifc t a => congrArg (AV.ifc t) (AV.kill_nil a)
  | .fn f cs => congrArg (AV.fn f) (killL_nil cs)
theorem killL_nil : ∀ cs : List AV, killL [] [] cs = cs
  | [] => rfl
  | c :: cs => by rw [killL, AV.kill_nil c, killL_nil cs]
end
theorem killS_nil (σ : Id → Option OB) : killS σ [] [] = σ := by
  funext x
  unfold killS
  show sel false none (mapOB [] [] (σ x)) = σ x
  cases h : σ x with
  | none => rfl
  | some ob =>
    cases ob with
    | row e sz els => rfl
    | box t cs => show some (OB.box t (killL [] [] cs)) = _; rw [killL_nil]
    | pin c x => show some (OB.pin (c.kill [] []) x) = _; rw [AV.kill_nil]
    | mp _ _ _ => rfl
theorem killE_nil (f : Nat → AV) : killE f [] [] = f := funext fun k => AV.kill_nil _
theorem St.chg_nil (s : St) : s.chg [] [] = s := by
  show St.mk (killE s.env [] []) (killS s.σ [] []) = s
  rw [killE_nil, killS_nil]

section
variable {P : Program} {H : Nat → Nat} {W0 : Bs} {S F : Nat → Prop} {n : Nat} {L : Nat → Option Id} {m : Id → Value} {s : St} {a : Act} {w : World} {K : St → Prop}
/-- The world has grown. -/
theorem RelC.grow (R : RelC W0 S F n L m s a w) {w' : World} (hw : ∀ b, b < w.heap.size → w'.heap[b]? = w.heap[b]?) (hb : W0.bel w') (hs : w.heap.size ≤ w'.heap.size) : RelC W0 S F n L m s a w' := by
  have := R.drop (I := []) (J := []) (L' := L) (m' := m) (w' := w') ?_ (fun b p h => ⟨(R.lab b p h).1, Nat.lt_of_lt_of_le (R.lab b p h).2 hs⟩) hb
  · rwa [St.chg_nil] at this
  · rw [killS_nil]
    have hold : ∀ b, S b ∨ F b → w'.heap[b]? = w.heap[b]? := fun b hb' => hw b (Nat.lt_of_lt_of_le (Bs.lt (R.old b hb')) R.below.size)
    exact ⟨⟨fun b h => ⟨h, hold b (.inl h)⟩, fun b h => ⟨h, hold b (.inr h)⟩⟩, fun _ _ => rfl, fun _ _ h => ⟨h, rfl⟩, fun y _ _ b q h => ⟨h, hw b (R.lab b _ h).2⟩⟩
theorem RelC.drew (R : RelC W0 S F n L m s a w) : RelC W0 S F n L m s a { w with drawn := w.drawn + 1 } :=
  R.grow (fun _ _ => rfl) R.below.drew (Nat.le_refl _)

/-! ### what is handed -/
def callS (S F : Nat → Prop) (L : Nat → Option Id) (lend : Bool) : Nat → Prop := fun b => if lend = true then S b else S b ∨ F b ∨ ∃ p, L b = some p
def callC (w : World) (S F : Nat → Prop) (L : Nat → Option Id) (lend : Bool) : Cx := ⟨w, callS S F L lend, F, fun _ => none, fun _ => undef, fun _ => False⟩
theorem stays_call (lend : Bool) : Stays (cx w S F L m s.σ) (callC w S F L lend) :=
  ⟨fun b h => ⟨by show callS S F L lend b; unfold callS; split; exact h; exact .inl h, rfl⟩, fun b h => ⟨h, rfl⟩⟩
theorem tr_call (o : Org) : Tr (cx w S F L m s.σ) (callC w S F L false) (.read o) (.read .ent) :=
  ⟨fun _ => trivial, fun b h => ⟨by
    show callS S F L false b
    unfold callS
    rw [if_neg (by simp)]
    cases o with
    | ent => exact .inl h
    | frz => exact .inr (.inl h)
    | obj id => obtain ⟨q, h⟩ := h; exact .inr (.inr ⟨_, h⟩)
    | «at» id _ _ _ => obtain ⟨q, h⟩ := h; exact .inr (.inr ⟨_, h⟩), rfl⟩⟩
theorem tr_call_own (id : Id) : Tr (cx w S F L m s.σ) (callC w S F L false) (.own id) (.read .ent) :=
  ⟨trivial, fun b q h => ⟨by show callS S F L false b; unfold callS; rw [if_neg (by simp)]; exact .inr (.inr ⟨_, h⟩), rfl⟩⟩
theorem coe_sound (R : RelC W0 S F n L m s a w) {c c' : AV} (h : s.coe c = some c') {y : Value} (hr : Rep (cx w S F L m s.σ) false (.read .ent) c y) : Rep (callC w S F L false) true (.read .ent) c' y := by
  cases c with
  | any => obtain rfl := Option.some.inj h; trivial
  | v u => obtain rfl := Option.some.inj h; exact hr
  | rd o e sz els =>
    obtain rfl := Option.some.inj h
    obtain ⟨_, ⟨ha, _⟩, A, c, rfl, h1, h2, h3⟩ := hr
    refine ⟨trivial, A, c, rfl, h1, h2, ?_⟩
    rcases h3 with h3 | ⟨b, off, rfl, hb, hE⟩
    · exact .inl h3
    · exact .inr ⟨b, off, rfl, ((tr_call o).2 b hb).1, RepEls.tr (stays_call false) (tr_call o) els rfl (.inr rfl) hE⟩
  | ref id =>
    simp only [St.coe] at h
    unfold coeRow at h
    split at h
    · rename_i e sz els hob
      obtain rfl := Option.some.inj h
      rw [show y = m id from hr.2.2.2]
      exact Rep.tr (stays_call false) (tr_call_own id) _ _ (R.obj id _ hob)
    · cases h
  | _ => cases h
theorem coeL_sound (R : RelC W0 S F n L m s a w) : ∀ {cs cs' : List AV}, s.coeL cs = some cs' → ∀ {vs : List Value} {q : Nat}, RepVs (cx w S F L m s.σ) false (.read .ent) q cs vs → RepVs (callC w S F L false) true (.read .ent) q cs' vs
  | [], cs', h, vs, q, hr => by obtain rfl := Option.some.inj h; exact hr
  | c :: cs, cs', h, vs, q, hr => by
    simp only [St.coeL] at h
    obtain ⟨x, hx, h⟩ := bindO_eq h
    obtain ⟨xs, hxs, h⟩ := bindO_eq h
    obtain rfl := Option.some.inj h
    obtain ⟨y, ys, rfl, h1, h2⟩ := hr
    exact ⟨y, ys, rfl, coe_sound R hx h1, coeL_sound R hxs h2⟩
theorem repCs_of {C C' : Cx} {off0 : Nat} : ∀ {cs cs' : List AV} {g off q : Nat} , C'.w = C.w → (cs'.length = cs.length) → (∀ (i : Nat) (c c' : AV) (y : Value), cs[i]? = some c → cs'[i]? = some c' → Rep C false (.read .ent) c y → Rep C' true (.read .ent) c' y) → RepCs C false (.read .ent) g off q cs → RepCs C' true (.read .ent) g off q cs'
  | [], [], _, _, _, _, _, _, h => trivial
  | [], _ :: _, _, _, _, _, hl, _, _ => by simp at hl
  | _ :: _, [], _, _, _, _, hl, _, _ => by simp at hl
  | c :: cs, c' :: cs', g, off, q, hw, hl, hc, ⟨⟨y, h1, h2, h3⟩, h⟩ => ⟨⟨y, by rw [hw]; exact h1, h2, hc 0 c c' y rfl rfl h3⟩, repCs_of (off0 := off0) hw (by simpa using hl) (fun i c c' y h1 h2 => hc (i + 1) c c' y h1 h2) h⟩
theorem coeL_at : ∀ {cs cs' : List AV}, s.coeL cs = some cs' → cs'.length = cs.length ∧ ∀ (i : Nat) (c c' : AV), cs[i]? = some c → cs'[i]? = some c' → s.coe c = some c'
  | [], cs', h => by obtain rfl := Option.some.inj h; exact ⟨rfl, fun i c c' h => by simp at h⟩
  | c :: cs, cs', h => by
    simp only [St.coeL] at h
    obtain ⟨x, hx, h⟩ := bindO_eq h
    obtain ⟨xs, hxs, h⟩ := bindO_eq h
    obtain rfl := Option.some.inj h
    obtain ⟨h1, h2⟩ := coeL_at hxs
    refine ⟨by simp [h1], fun i c1 c2 g1 g2 => ?_⟩
    cases i with
    | zero => obtain rfl := Option.some.inj g1; obtain rfl := Option.some.inj g2; exact hx
    | succ i => exact h2 i c1 c2 (by simpa using g1) (by simpa using g2)
theorem coeK_sound (R : RelC W0 S F n L m s a w) {c c' : AV} (h : s.coeK c = some c') {y : Value} (hr : Rep (cx w S F L m s.σ) false (.read .ent) c y) : Rep (callC w S F L false) true (.read .ent) c' y := by
  unfold St.coeK at h
  split at h
  · obtain ⟨hsz, rfl⟩ := sel_eq_some h
    rename_i o t sz cs
    obtain ⟨_, ha, b, off, rfl, hb, hE⟩ := hr
    have ht := tr_call (w := w) (S := S) (F := F) (L := L) (m := m) (s := s) o
    exact ⟨trivial, b, off, by simp, (ht.2 b hb).1, RepCs.tr (stays_call false) ht _ rfl (.inr rfl) hE.2.1⟩
  · rename_i id sz
    unfold coeBox at h
    split at h
    · rename_i t cs hob
      obtain ⟨cs', hcs, h⟩ := bindO_eq h
      obtain rfl := Option.some.inj h
      obtain ⟨_, hl, g, off, hm, rfl⟩ := hr
      obtain ⟨g', arr, hm', hL, hh, hs, hC⟩ := R.obj id _ hob
      obtain ⟨h1, h2⟩ := coeL_at hcs
      have hm2 : m id = .pointer (some ⟨g', 0, none⟩) := hm'
      have hm1 : hdrAddr (m id) = some ⟨g, off, none⟩ := hm
      rw [hm2] at hm1
      obtain ⟨rfl, rfl⟩ : g' = g ∧ 0 = off := by simpa [hdrAddr] using hm1
      refine ⟨trivial, g', 0, by simp, ((tr_call_own id).2 g' [] (by simpa using hL)).1, repCs_of (C := cx w S F L m s.σ) (off0 := 0) rfl h1 (fun i c c' y g1 g2 g3 => coe_sound R (h2 i c c' g1 g2) g3) hC⟩
    · cases h
  · exact coe_sound R h hr
theorem coeKL_sound (R : RelC W0 S F n L m s a w) : ∀ {cs cs' : List AV}, s.coeKL cs = some cs' → ∀ {vs : List Value} {q : Nat}, RepVs (cx w S F L m s.σ) false (.read .ent) q cs vs → RepVs (callC w S F L false) true (.read .ent) q cs' vs
  | [], cs', h, vs, q, hr => by obtain rfl := Option.some.inj h; exact hr
  | c :: cs, cs', h, vs, q, hr => by
    simp only [St.coeKL] at h
    obtain ⟨x, hx, h⟩ := bindO_eq h
    obtain ⟨xs, hxs, h⟩ := bindO_eq h
    obtain rfl := Option.some.inj h
    obtain ⟨y, ys, rfl, h1, h2⟩ := hr
    exact ⟨y, ys, rfl, coeK_sound R hx h1, coeKL_sound R hxs h2⟩
theorem coeA_sound (R : RelC W0 S F n L m s a w) {c c' : AV} (h : s.coeA c = some c') {y : Value} (hr : Rep (cx w S F L m s.σ) false (.read .ent) c y) : Rep (callC w S F L false) true (.read .ent) c' y := by
  cases c with
  | agg cs =>
    obtain ⟨x, hx, h⟩ := bindO_eq (show bindO _ _ = _ from h)
    obtain rfl := Option.some.inj h
    obtain ⟨vs, rfl, h⟩ := hr
    exact ⟨vs, rfl, coeL_sound R hx h⟩
  | fn f cs =>
    obtain ⟨x, hx, h⟩ := bindO_eq (show bindO _ _ = _ from h)
    obtain rfl := Option.some.inj h
    obtain ⟨vs, rfl, h⟩ := hr
    exact ⟨vs, rfl, coeKL_sound R hx h⟩
  | _ => simp only [St.coeA] at h; exact coeK_sound R h hr
theorem lendC_sound {c c' : AV} (h : lendC c = some c') {y : Value} (hr : Rep (cx w S F L m s.σ) false (.read .ent) c y) : Rep (callC w S F L true) true (.read .ent) c' y := by
  cases c with
  | any => obtain rfl := Option.some.inj h; trivial
  | v u => obtain rfl := Option.some.inj h; exact hr
  | rd o e sz els =>
    simp only [lendC] at h
    cases ho : isObj o with
    | true => rw [ho] at h; cases h
    | false =>
      rw [ho] at h
      obtain rfl := Option.some.inj h
      obtain ⟨_, ⟨ha, _⟩, A, c, rfl, h1, h2, h3⟩ := hr
      have hm := (stays_call (w := w) (m := m) (s := s) (S := S) (F := F) (L := L) true).org o ho
      refine ⟨by simp [ho], ⟨hm.1 ha, Cx.hdr_of ho⟩, A, c, rfl, h1, h2, ?_⟩
      rcases h3 with h3 | ⟨b, off, rfl, hb, hE⟩
      · exact .inl h3
      · exact .inr ⟨b, off, rfl, (hm.2 b hb).1, RepEls.tr (stays_call true) hm els rfl (.inr rfl) hE⟩
  | _ => cases h
theorem lendL_sound : ∀ {cs cs' : List AV}, lendL cs = some cs' → ∀ {vs : List Value} {q : Nat}, RepVs (cx w S F L m s.σ) false (.read .ent) q cs vs → RepVs (callC w S F L true) true (.read .ent) q cs' vs
  | [], cs', h, vs, q, hr => by obtain rfl := Option.some.inj h; exact hr
  | c :: cs, cs', h, vs, q, hr => by
    simp only [lendL] at h
    obtain ⟨x, hx, h⟩ := bindO_eq h
    obtain ⟨xs, hxs, h⟩ := bindO_eq h
    obtain rfl := Option.some.inj h
    obtain ⟨y, ys, rfl, h1, h2⟩ := hr
    exact ⟨y, ys, rfl, lendC_sound hx h1, lendL_sound hxs h2⟩
theorem lendA_sound {c c' : AV} (h : lendA c = some c') {y : Value} (hr : Rep (cx w S F L m s.σ) false (.read .ent) c y) : Rep (callC w S F L true) true (.read .ent) c' y := by
  cases c with
  | agg cs =>
    obtain ⟨x, hx, h⟩ := bindO_eq (show bindO _ _ = _ from h)
    obtain rfl := Option.some.inj h
    obtain ⟨vs, rfl, h⟩ := hr
    exact ⟨vs, rfl, lendL_sound hx h⟩
  | _ => simp only [lendA] at h; exact lendC_sound h hr
/-! what is handed as if nobody wrote it any more -/
def frzS (F : Nat → Prop) (L : Nat → Option Id) : Nat → Prop := fun b => F b ∨ ∃ p, L b = some p
def frzX (w : World) (S F : Nat → Prop) (L : Nat → Option Id) : Cx := ⟨w, S, frzS F L, fun _ => none, fun _ => undef, fun _ => False⟩
theorem stays_frz : Stays (cx w S F L m s.σ) (frzX w S F L) := ⟨fun b h => ⟨h, rfl⟩, fun b h => ⟨.inl h, rfl⟩⟩
theorem tr_frz (o : Org) : Tr (cx w S F L m s.σ) (frzX w S F L) (.read o) (.read (frzO o)) := by
  cases o with
  | ent => exact ⟨fun _ => trivial, fun b h => ⟨h, rfl⟩⟩
  | frz => exact ⟨fun _ => trivial, fun b h => ⟨.inl h, rfl⟩⟩
  | obj id => exact ⟨fun _ => trivial, fun b h => by obtain ⟨q, h⟩ := h; exact ⟨.inr ⟨_, h⟩, rfl⟩⟩
  | «at» id _ _ _ => exact ⟨fun _ => trivial, fun b h => by obtain ⟨q, h⟩ := h; exact ⟨.inr ⟨_, h⟩, rfl⟩⟩
theorem tr_frz_own (id : Id) : Tr (cx w S F L m s.σ) (frzX w S F L) (.own id) (.read .frz) :=
  ⟨trivial, fun b q h => ⟨.inr ⟨_, h⟩, rfl⟩⟩
theorem frzO_not (o : Org) : isObj (frzO o) = false := by cases o <;> rfl
theorem frzO_al (o : Org) {C : Cx} : C.alive (frzO o) := by cases o <;> trivial
theorem frzC_sound (R : RelC W0 S F n L m s a w) {c c' : AV} (h : s.frzC c = some c') {y : Value} (hr : Rep (cx w S F L m s.σ) false (.read .ent) c y) : Rep (frzX w S F L) true (.read .ent) c' y := by
  cases c with
  | any => obtain rfl := Option.some.inj h; trivial
  | v u => obtain rfl := Option.some.inj h; exact hr
  | rd o e sz els =>
    obtain rfl := Option.some.inj h
    obtain ⟨_, ⟨ha, _⟩, A, c, rfl, h1, h2, h3⟩ := hr
    refine ⟨by simp [frzO_not], ⟨frzO_al o, Cx.hdr_of (frzO_not o)⟩, A, c, rfl, h1, h2, ?_⟩
    rcases h3 with h3 | ⟨b, off, rfl, hb, hE⟩
    · exact .inl h3
    · exact .inr ⟨b, off, rfl, ((tr_frz o).2 b hb).1, RepEls.tr stays_frz (tr_frz o) els rfl (.inr rfl) hE⟩
  | ref id =>
    simp only [St.frzC] at h
    unfold frzR at h
    split at h
    · rename_i e sz els hob
      obtain rfl := Option.some.inj h
      rw [show y = m id from hr.2.2.2]
      have hrow := Rep.tr stays_frz (tr_frz_own id) (.row e sz els) _ (R.obj id _ hob)
      obtain ⟨_, A, c, he, h1, h2, h3⟩ := hrow
      exact ⟨by simp [isObj], ⟨trivial, trivial⟩, A, c, he, h1, h2, h3⟩
    · cases h
  | _ => cases h
theorem frzL_sound (R : RelC W0 S F n L m s a w) : ∀ {cs cs' : List AV}, s.frzL cs = some cs' → ∀ {vs : List Value} {q : Nat}, RepVs (cx w S F L m s.σ) false (.read .ent) q cs vs → RepVs (frzX w S F L) true (.read .ent) q cs' vs
  | [], cs', h, vs, q, hr => by obtain rfl := Option.some.inj h; exact hr
  | c :: cs, cs', h, vs, q, hr => by
    simp only [St.frzL] at h
    obtain ⟨x, hx, h⟩ := bindO_eq h
    obtain ⟨xs, hxs, h⟩ := bindO_eq h
    obtain rfl := Option.some.inj h
    obtain ⟨y, ys, rfl, h1, h2⟩ := hr
    exact ⟨y, ys, rfl, frzC_sound R hx h1, frzL_sound R hxs h2⟩
theorem frzA_sound (R : RelC W0 S F n L m s a w) {c c' : AV} (h : s.frzA c = some c') {y : Value} (hr : Rep (cx w S F L m s.σ) false (.read .ent) c y) : Rep (frzX w S F L) true (.read .ent) c' y := by
  cases c with
  | agg cs =>
    obtain ⟨x, hx, h⟩ := bindO_eq (show bindO _ _ = _ from h)
    obtain rfl := Option.some.inj h
    obtain ⟨vs, rfl, h⟩ := hr
    exact ⟨vs, rfl, frzL_sound R hx h⟩
  | _ => simp only [St.frzA] at h; exact frzC_sound R h hr
theorem frzE_sound (R : RelC W0 S F n L m s a w) : ∀ {xs : List Operand} {cs : List AV}, s.frzE (xs.map s.ev) = some cs → ∀ q, RepVs (frzX w S F L) true (.read .ent) q cs (xs.map a.eval)
  | [], cs, h, q => by obtain rfl := Option.some.inj h; rfl
  | x :: xs, cs, h, q => by
    simp only [List.map_cons, St.frzE] at h
    obtain ⟨c, hc, h⟩ := bindO_eq h
    obtain ⟨cs', hcs, h⟩ := bindO_eq h
    obtain rfl := Option.some.inj h
    exact ⟨a.eval x, xs.map a.eval, rfl, frzA_sound R hc (R.ev x), frzE_sound R hcs _⟩
theorem nilC_read {C : Cx} {cl : Bool} {c : AV} {y : Value} (h : Rep C cl (.read .ent) c y) (t : Option (Nat × Nat)) : Rep C cl (.read .ent) (nilC t c) y := by
  unfold nilC
  split
  · exact ⟨trivial, none, 0, h.1, Nat.le_refl _, Nat.zero_le _, .inl rfl⟩
  · exact h
theorem nilL_read {C : Cx} {cl : Bool} : ∀ {ts : List (Option (Nat × Nat))} {cs : List AV} {vs : List Value} {q : Nat}, RepVs C cl (.read .ent) q cs vs → RepVs C cl (.read .ent) q (nilL ts cs) vs
  | [], cs, vs, q, h => by simpa [nilL] using h
  | _ :: _, [], vs, q, h => by simpa [nilL] using h
  | t :: ts, c :: cs, vs, q, h => by
    obtain ⟨y, ys, rfl, h1, h2⟩ := h
    exact ⟨y, ys, rfl, nilC_read h1 t, nilL_read h2⟩
theorem nilA_read {C : Cx} {cl : Bool} {c : AV} {y : Value} (h : Rep C cl (.read .ent) c y) (ts : List (Option (Nat × Nat))) : Rep C cl (.read .ent) (nilA ts c) y := by
  cases c with
  | agg cs => obtain ⟨vs, rfl, h⟩ := h; exact ⟨vs, rfl, nilL_read h⟩
  | any => trivial
  | tup cs => exact h
  | _ => exact nilC_read h _
theorem args_sound (R : RelC W0 S F n L m s a w) {lend : Bool} : ∀ {xs : List Operand} {ts : List TypeId} {cs : List AV}, argsE P s lend ts (xs.map s.ev) = some cs → ∀ q, RepVs (callC w S F L lend) true (.read .ent) q cs (xs.map a.eval)
  | [], [], cs, h, q => by obtain rfl := Option.some.inj h; rfl
  | [], _ :: _, cs, h, q => by cases h
  | x :: xs, [], cs, h, q => by cases h
  | x :: xs, t :: ts, cs, h, q => by
    simp only [List.map_cons, argsE] at h
    obtain ⟨c, hc, h⟩ := bindO_eq h
    obtain ⟨cs', hcs, h⟩ := bindO_eq h
    obtain rfl := Option.some.inj h
    refine ⟨a.eval x, xs.map a.eval, rfl, ?_, args_sound R hcs _⟩
    cases lend with
    | true => exact lendA_sound (show lendA _ = _ from hc) (R.ev x)
    | false =>
      obtain ⟨c0, hc0, hc⟩ := bindO_eq (show bindO _ _ = _ from hc)
      obtain rfl := Option.some.inj hc
      exact nilA_read (coeA_sound R hc0 (R.ev x)) _

/-! ### what comes back -/
def nav (w : World) : List Nat → Value → Value
  | [], v => v
  | k :: p, .agg vs => nav w p (vs.getD k undef)
  | k :: p, .tuple vs => nav w p (vs.getD k undef)
  | 0 :: _, .pointer a => .pointer a
  | 1 :: k :: p, .pointer (some a) => nav w p ((w.cell? ⟨a.block, k, none⟩).getD undef)
  | _ :: _, _ => undef
theorem opnC_sound {C' : Cx} {id : Id} {q : Nat} {c : AV} {y : Value} (hr : Rep C' true (.own (id ++ [q])) c y) (hm : C'.m (id ++ [q]) = y) (hl : ∀ x ∈ (opnC id q c).2, C'.live x.1) : Rep C' false (.read .ent) (opnC id q c).1 y ∧ (∀ x ∈ (opnC id q c).2, RepOb C' x.1 x.2) := by
  cases c with
  | any => exact ⟨trivial, fun x h => by simp [opnC] at h⟩
  | v u => exact ⟨hr, fun x h => by simp [opnC] at h⟩
  | row e sz els =>
    have h1 : one y := by obtain ⟨A, c, rfl, _⟩ := hr; trivial
    refine ⟨⟨rfl, h1, hl (id ++ [q], .row e sz els) (by simp [opnC]), hm.symm⟩, fun x h => ?_⟩
    simp only [opnC, List.mem_singleton] at h
    subst h
    show Rep C' true (.own (id ++ [q])) _ (C'.m (id ++ [q]))
    rw [hm]; exact hr
  | rd o e sz els =>
    exact ⟨⟨by simp, hr.2⟩, fun x h => by simp [opnC] at h⟩
  | rp => exact absurd hr.1 (by simp)
  | ref => exact absurd hr.1 (by simp)
  | ptr => exact absurd hr.1 (by simp)
  | agg => exact ⟨trivial, fun x h => by simp [opnC] at h⟩
  | tup => exact ⟨trivial, fun x h => by simp [opnC] at h⟩
  | bx => exact ⟨trivial, fun x h => by simp [opnC] at h⟩
  | ifc t a =>
    refine ⟨?_, fun x h => by simp [opnC] at h⟩
    show Rep C' false (.read .ent) (sel a.clB (.ifc t a) .any) y
    cases hb : a.clB with
    | true => exact Rep.loose _ _ (clB_tr (Stays.refl C') (md := .read .ent) (a := .ifc t a) (by simpa [AV.clB] using hb) hr)
    | false => trivial
  | fn f cs =>
    refine ⟨?_, fun x h => by simp [opnC] at h⟩
    show Rep C' false (.read .ent) (sel (clBL cs) (.fn f cs) .any) y
    cases hb : clBL cs with
    | true => exact Rep.loose _ _ (clB_tr (Stays.refl C') (md := .read .ent) (a := .fn f cs) (by simpa [AV.clB] using hb) hr)
    | false => trivial
theorem opnCs_sound {C' : Cx} {id : Id} : ∀ {cs : List AV} {vs : List Value} {q : Nat}, RepVs C' true (.own id) q cs vs → (∀ j y, vs[j]? = some y → C'.m (id ++ [q + j]) = y) → (∀ x ∈ (opnCs id q cs).2, C'.live x.1) → ∀ q', RepVs C' false (.read .ent) q' (opnCs id q cs).1 vs ∧ (∀ x ∈ (opnCs id q cs).2, RepOb C' x.1 x.2)
  | [], vs, q, hr, _, _, q' => ⟨hr, fun x h => by simp [opnCs] at h⟩
  | c :: cs, vs, q, hr, hm, hl, q' => by
    obtain ⟨y, ys, rfl, h1, h2⟩ := hr
    obtain ⟨g1, g2⟩ := opnC_sound h1 (by simpa using hm 0 y (by simp)) (fun x hx => hl x (by simp [opnCs, hx]))
    obtain ⟨g3, g4⟩ := opnCs_sound h2 (fun j y' hj => by have := hm (j + 1) y' (by simpa using hj); rwa [show q + (j + 1) = q + 1 + j by omega] at this) (fun x hx => hl x (by simp [opnCs, hx])) (q' + 1)
    refine ⟨⟨y, ys, rfl, g1, g3⟩, fun x hx => ?_⟩
    simp only [opnCs, List.mem_append] at hx
    exact hx.elim (g2 x) (g4 x)
theorem opnCs_mem {C' : Cx} {id : Id} {b : Nat} : ∀ {cs : List AV} {off q : Nat}, RepCs C' true (.own id) b off q cs → (∀ j y, C'.w.cell? ⟨b, off + j, none⟩ = some y → C'.m (id ++ [q + j]) = y) → (∀ x ∈ (opnCs id q cs).2, C'.live x.1) → ∀ q', RepCs C' false (.read .ent) b off q' (opnCs id q cs).1 ∧ (∀ x ∈ (opnCs id q cs).2, RepOb C' x.1 x.2)
  | [], off, q, hr, _, _, q' => ⟨hr, fun x h => by simp [opnCs] at h⟩
  | c :: cs, off, q, hr, hm, hl, q' => by
    obtain ⟨⟨y, h0, h1, h2⟩, h3⟩ := hr
    obtain ⟨g1, g2⟩ := opnC_sound h2 (by simpa using hm 0 y (by simpa using h0)) (fun x hx => hl x (by simp [opnCs, hx]))
    obtain ⟨g3, g4⟩ := opnCs_mem h3 (fun j y' hj => by have := hm (j + 1) y' (by rwa [show off + (j + 1) = off + 1 + j by omega]); rwa [show q + (j + 1) = q + 1 + j by omega] at this) (fun x hx => hl x (by simp [opnCs, hx])) (q' + 1)
    refine ⟨⟨⟨y, h0, h1, g1⟩, g3⟩, fun x hx => ?_⟩
    simp only [opnCs, List.mem_append] at hx
    exact hx.elim (g2 x) (g4 x)
theorem opnCs_length (id : Id) : ∀ (cs : List AV) (q : Nat), (opnCs id q cs).1.length = cs.length
  | [], _ => rfl
  | c :: cs, q => by simp [opnCs, opnCs_length id cs (q + 1)]
theorem nav_list (id : Id) {vs : Array Value} {C' : Cx} {w : World} (hm : ∀ p, C'.m (id ++ p) = nav w p (.agg vs) ∨ C'.m (id ++ p) = nav w p (.tuple vs)) : ∀ j y, vs.toList[j]? = some y → C'.m (id ++ [j]) = y := fun j y hj => by
  have : vs[j]? = some y := by simpa using hj
  rcases hm [j] with h | h <;> (rw [h]; simp [nav, this])
theorem opn_bx {C' : Cx} {id : Id} {t : Nat} {cs : List AV} {y : Value} (hr : Rep C' true (.own id) (.bx t cs) y) (hm : ∀ p, C'.m (id ++ p) = nav C'.w p y) (h0 : C'.live (id ++ [0])) (hl : ∀ x ∈ (opnCs (id ++ [1]) 0 cs).2, C'.live x.1) :
    Rep C' false (.read .ent) (.ptr (id ++ [0]) 0 0 0) y ∧ RepOb C' (id ++ [0]) (.box t (opnCs (id ++ [1]) 0 cs).1) ∧ (∀ x ∈ (opnCs (id ++ [1]) 0 cs).2, RepOb C' x.1 x.2) := by
  obtain ⟨g, arr, rfl, h1, h2, h3, h4⟩ := hr
  have hm0 : C'.m (id ++ [0]) = .pointer (some ⟨g, 0, none⟩) := by rw [hm]; rfl
  obtain ⟨g1, g2⟩ := opnCs_mem h4 (fun j y hj => by
    rw [List.append_assoc, hm, Nat.zero_add]
    show nav C'.w [] ((C'.w.cell? ⟨g, j, none⟩).getD undef) = y
    rw [Nat.zero_add] at hj
    rw [hj]; rfl) hl 0
  exact ⟨⟨rfl, h0, g, 0, by rw [hm0]; rfl, by simp⟩, ⟨g, arr, hm0, h1, h2, by rw [opnCs_length]; exact h3, g1⟩, g2⟩
theorem opnB_sound {C' : Cx} {id : Id} {q : Nat} {c : AV} {y : Value} (hr : Rep C' true (.own (id ++ [q])) c y) (hm : ∀ p, C'.m (id ++ [q] ++ p) = nav C'.w p y) (hl : ∀ x ∈ (opnB id q c).2, C'.live x.1) : Rep C' false (.read .ent) (opnB id q c).1 y ∧ (∀ x ∈ (opnB id q c).2, RepOb C' x.1 x.2) := by
  have key : opnB id q c = opnC id q c → Rep C' false (.read .ent) (opnB id q c).1 y ∧ (∀ x ∈ (opnB id q c).2, RepOb C' x.1 x.2) := fun e => by
    rw [e] at hl ⊢
    exact opnC_sound hr (by simpa [nav] using hm []) hl
  cases c with
  | agg cs =>
    obtain ⟨vs, rfl, h⟩ := hr
    obtain ⟨g1, g2⟩ := opnCs_sound h (fun j y hj => by rw [Nat.zero_add]; exact nav_list _ (fun p => .inl (hm p)) j y hj) hl 0
    exact ⟨⟨vs, rfl, g1⟩, g2⟩
  | bx t cs =>
    obtain ⟨g1, g2, g3⟩ := opn_bx hr hm (hl (id ++ [q] ++ [0], _) (List.mem_cons_self ..)) (fun x hx => hl x (List.mem_cons_of_mem _ hx))
    refine ⟨g1, fun x hx => ?_⟩
    simp only [opnB, List.mem_cons] at hx
    rcases hx with rfl | hx
    · exact g2
    · exact g3 x hx
  | _ => exact key rfl
theorem opnL_sound {C' : Cx} {id : Id} : ∀ {cs : List AV} {vs : List Value} {q : Nat}, RepVs C' true (.own id) q cs vs → (∀ j y, vs[j]? = some y → ∀ p, C'.m (id ++ [q + j] ++ p) = nav C'.w p y) → (∀ x ∈ (opnL id q cs).2, C'.live x.1) → ∀ q', RepVs C' false (.read .ent) q' (opnL id q cs).1 vs ∧ (∀ x ∈ (opnL id q cs).2, RepOb C' x.1 x.2)
  | [], vs, q, hr, _, _, q' => ⟨hr, fun x h => by simp [opnL] at h⟩
  | c :: cs, vs, q, hr, hm, hl, q' => by
    obtain ⟨y, ys, rfl, h1, h2⟩ := hr
    obtain ⟨g1, g2⟩ := opnB_sound h1 (fun p => by simpa using hm 0 y (by simp) p) (fun x hx => hl x (by simp [opnL, hx]))
    obtain ⟨g3, g4⟩ := opnL_sound h2 (fun j y' hj p => by have := hm (j + 1) y' (by simpa using hj) p; rwa [show q + (j + 1) = q + 1 + j by omega] at this) (fun x hx => hl x (by simp [opnL, hx])) (q' + 1)
    refine ⟨⟨y, ys, rfl, g1, g3⟩, fun x hx => ?_⟩
    simp only [opnL, List.mem_append] at hx
    exact hx.elim (g2 x) (g4 x)
theorem opnA_sound {C' : Cx} {d : Nat} {c : AV} {y : Value} (hr : Rep C' true (.own [d]) c y) (hm : ∀ p, C'.m ([d] ++ p) = nav C'.w p y) (hl : ∀ x ∈ (opnA d c).2, C'.live x.1) : Rep C' false (.read .ent) (opnA d c).1 y ∧ (∀ x ∈ (opnA d c).2, RepOb C' x.1 x.2) := by
  have hm0 : C'.m [d] = y := by simpa [nav] using hm []
  cases c with
  | row e sz els =>
    have h1 : one y := by obtain ⟨A, c, rfl, _⟩ := hr; trivial
    refine ⟨⟨rfl, h1, hl ([d], .row e sz els) (by simp [opnA]), hm0.symm⟩, fun x h => ?_⟩
    simp only [opnA, List.mem_singleton] at h
    subst h
    show Rep C' true (.own [d]) _ (C'.m [d])
    rw [hm0]; exact hr
  | agg cs =>
    obtain ⟨vs, rfl, h⟩ := hr
    obtain ⟨g1, g2⟩ := opnCs_sound h (fun j y hj => by rw [Nat.zero_add]; exact nav_list _ (fun p => .inl (hm p)) j y hj) hl 0
    exact ⟨⟨vs, rfl, g1⟩, g2⟩
  | tup cs =>
    obtain ⟨vs, rfl, h⟩ := hr
    obtain ⟨g1, g2⟩ := opnL_sound h (fun j y hj p => by
      rw [Nat.zero_add, List.append_assoc, hm ([j] ++ p)]
      have : vs[j]? = some y := by simpa using hj
      simp [nav, this]) hl 0
    exact ⟨⟨vs, rfl, g1⟩, g2⟩
  | bx t cs =>
    obtain ⟨g1, g2, g3⟩ := opn_bx (id := [d]) hr hm (hl ([d, 0], _) (List.mem_cons_self ..)) (fun x hx => hl x (List.mem_cons_of_mem _ hx))
    refine ⟨g1, fun x hx => ?_⟩
    simp only [opnA, List.mem_cons] at hx
    rcases hx with rfl | hx
    · exact g2
    · exact g3 x hx
  | _ => exact opnC_sound (id := []) hr hm0 hl
/-! the names -/
theorem opnC_key {id : Id} {q : Nat} {c : AV} : ∀ x ∈ (opnC id q c).2, x.1 = id ++ [q] := by
  cases c <;> simp [opnC]
theorem opnCs_key {id : Id} : ∀ {cs : List AV} {q : Nat}, ∀ x ∈ (opnCs id q cs).2, ∃ k, q ≤ k ∧ x.1 = id ++ [k]
  | [], q, x, h => by simp [opnCs] at h
  | c :: cs, q, x, h => by
    simp only [opnCs, List.mem_append] at h
    rcases h with h | h
    · exact ⟨q, Nat.le_refl _, opnC_key x h⟩
    · obtain ⟨k, h1, h2⟩ := opnCs_key x h
      exact ⟨k, by omega, h2⟩
theorem cmp_cons {p r r' : Id} {k k' : Nat} (h : cmp (p ++ [k] ++ r) (p ++ [k'] ++ r') = true) : k = k' ∧ cmp r r' = true := by
  simp only [cmp, Bool.or_eq_true, List.isPrefixOf_iff_prefix, List.append_assoc, List.prefix_append_right_inj] at h ⊢
  simpa [List.cons_prefix_cons, eq_comm, ← and_or_left] using h
theorem opnCs_ind {id : Id} {cs : List AV} {q : Nat} : ∀ x ∈ (opnCs id q cs).2, ∀ y ∈ (opnCs id q cs).2, cmp x.1 y.1 = true → x.1 = y.1 := by
  intro x hx y hy hc
  obtain ⟨k, _, h1⟩ := opnCs_key x hx
  obtain ⟨k', _, h2⟩ := opnCs_key y hy
  rw [h1, h2] at hc ⊢
  have hkk := (cmp_cons (p := id) (k := k) (k' := k') (r := []) (r' := []) (by simpa using hc)).1
  rw [hkk]
theorem opn_bx_ind {id : Id} {ob : OB} {cs : List AV} : ∀ x ∈ (id ++ [0], ob) :: (opnCs (id ++ [1]) 0 cs).2, ∀ y ∈ (id ++ [0], ob) :: (opnCs (id ++ [1]) 0 cs).2, cmp x.1 y.1 = true → x.1 = y.1 := by
  intro x hx y hy hc
  rcases List.mem_cons.1 hx with rfl | hx <;> rcases List.mem_cons.1 hy with rfl | hy
  · rfl
  · obtain ⟨k, _, h2⟩ := opnCs_key y hy
    rw [h2] at hc
    have := (cmp_cons (p := id) (k := 0) (k' := 1) (r := []) (r' := [k]) (by simpa using hc)).1
    omega
  · obtain ⟨k, _, h2⟩ := opnCs_key x hx
    rw [h2] at hc
    have := (cmp_cons (p := id) (k := 1) (k' := 0) (r := [k]) (r' := []) (by simpa using hc)).1
    omega
  · exact opnCs_ind x hx y hy hc
theorem opnB_key {id : Id} {q : Nat} {c : AV} : ∀ x ∈ (opnB id q c).2, ∃ r, x.1 = id ++ [q] ++ r := by
  intro x hx
  cases c with
  | agg cs =>
    obtain ⟨k, _, h⟩ := opnCs_key x hx
    exact ⟨[k], h⟩
  | bx t cs =>
    simp only [opnB, List.mem_cons] at hx
    rcases hx with rfl | hx
    · exact ⟨[0], rfl⟩
    · obtain ⟨k, _, h⟩ := opnCs_key x hx
      exact ⟨[1, k], by rw [h]; simp⟩
  | _ => exact ⟨[], by simpa using opnC_key x hx⟩
theorem opnL_key {id : Id} : ∀ {cs : List AV} {q : Nat}, ∀ x ∈ (opnL id q cs).2, ∃ k, q ≤ k ∧ ∃ r, x.1 = id ++ [k] ++ r
  | [], q, x, h => by simp [opnL] at h
  | c :: cs, q, x, h => by
    simp only [opnL, List.mem_append] at h
    rcases h with h | h
    · exact ⟨q, Nat.le_refl _, opnB_key x h⟩
    · obtain ⟨k, h1, h2⟩ := opnL_key x h
      exact ⟨k, by omega, h2⟩
theorem opnB_ind {id : Id} {q : Nat} {c : AV} : ∀ x ∈ (opnB id q c).2, ∀ y ∈ (opnB id q c).2, cmp x.1 y.1 = true → x.1 = y.1 := by
  intro x hx y hy hc
  cases c with
  | agg cs => exact opnCs_ind x hx y hy hc
  | bx t cs => exact opn_bx_ind x hx y hy hc
  | _ => exact (opnC_key x hx).trans (opnC_key y hy).symm
theorem opnL_ind {id : Id} : ∀ {cs : List AV} {q : Nat}, ∀ x ∈ (opnL id q cs).2, ∀ y ∈ (opnL id q cs).2, cmp x.1 y.1 = true → x.1 = y.1
  | [], q, x, h => by simp [opnL] at h
  | c :: cs, q, x, h => by
    intro y hy hc
    simp only [opnL, List.mem_append] at h hy
    rcases h with h | h <;> rcases hy with hy | hy
    · exact opnB_ind x h y hy hc
    · obtain ⟨r, h1⟩ := opnB_key x h
      obtain ⟨k, h2, r', h3⟩ := opnL_key y hy
      rw [h1, h3] at hc
      have := (cmp_cons hc).1
      omega
    · obtain ⟨r, h1⟩ := opnB_key y hy
      obtain ⟨k, h2, r', h3⟩ := opnL_key x h
      rw [h1, h3] at hc
      have := (cmp_cons hc).1
      omega
    · exact opnL_ind x h y hy hc
theorem opnA_key {d : Nat} {c : AV} : ∀ x ∈ (opnA d c).2, ∃ r, x.1 = [d] ++ r := by
  intro x hx
  cases c with
  | row => exact ⟨[], by simp [opnA] at hx; simp [hx]⟩
  | agg cs => obtain ⟨k, _, h⟩ := opnCs_key x hx; exact ⟨[k], h⟩
  | tup cs => obtain ⟨k, _, r, h⟩ := opnL_key x hx; exact ⟨[k] ++ r, by simpa using h⟩
  | bx t cs => exact opnB_key (id := []) (c := .bx t cs) x hx
  | _ => exact ⟨[], by simpa using opnC_key (id := []) x hx⟩
theorem opnA_ind {d : Nat} {c : AV} : ∀ x ∈ (opnA d c).2, ∀ y ∈ (opnA d c).2, cmp x.1 y.1 = true → x.1 = y.1 := by
  intro x hx y hy hc
  cases c with
  | row => simp [opnA] at hx hy; rw [hx, hy]
  | agg cs => exact opnCs_ind x hx y hy hc
  | tup cs => exact opnL_ind x hx y hy hc
  | bx t cs => exact opnB_ind (id := []) (c := .bx t cs) x hx y hy hc
  | _ => exact (opnC_key (id := []) x hx).trans (opnC_key (id := []) y hy).symm
theorem updL_some {id : Id} {ob : OB} : ∀ {l : List (Id × OB)} {σ : Id → Option OB}, updL σ l id = some ob → (id, ob) ∈ l ∨ (σ id = some ob ∧ ∀ x ∈ l, x.1 ≠ id)
  | [], σ, h => .inr ⟨h, fun x hx => by simp at hx⟩
  | x :: l, σ, h => by
    rcases updL_some (l := l) (show updL (updS σ x.1 x.2) l id = some ob from h) with h1 | ⟨h1, h2⟩
    · exact .inl (List.mem_cons_of_mem _ h1)
    · unfold updS at h1
      by_cases e : id = x.1
      · subst e
        simp only [beq_self_eq_true, sel, Option.some.injEq] at h1
        exact .inl (by rw [← h1]; simp)
      · have e1 : (id == x.1) = false := by simpa using e
        rw [e1] at h1
        exact .inr ⟨h1, fun y hy => by rcases List.mem_cons.1 hy with rfl | hy; exact fun e' => e e'.symm; exact h2 y hy⟩
theorem updL_live {l : List (Id × OB)} : ∀ {σ : Id → Option OB} {id : Id}, ((σ id).isSome = true ∨ ∃ ob, (id, ob) ∈ l) → (updL σ l id).isSome = true := by
  induction l with
  | nil => intro σ id h; rcases h with h | ⟨ob, h⟩; exact h; simp at h
  | cons x l ih =>
    intro σ id h
    refine ih (σ := updS σ x.1 x.2) ?_
    rcases h with h | ⟨ob, h⟩
    · left
      unfold updS
      cases e : (id == x.1) with
      | true => rfl
      | false => exact h
    · rcases List.mem_cons.1 h with rfl | h
      · left; simp [updS, sel]
      · exact .inr ⟨ob, h⟩

def Lift (W0 : Bs) (S F : Nat → Prop) (n : Nat) (K : St → Prop) : Act → World → Prop := fun a w => ∃ s', Rel W0 S F n s' a w ∧ K s'
/-- What a call hands back is in the frame. -/
theorem RelC.result (R : RelC W0 S F n L m s a w) {d : Nat} (hd : d < n) {r : AV} {v : Value} {Ld L2 : Nat → Option Id} (hL2 : ∀ b, L2 b = match Ld b with | some p => some p | none => L b)
    (hlabd : ∀ b p, Ld b = some p → W0.ok b ∧ b < w.heap.size ∧ L b = none) (hrep : ∀ m' σ', Rep (cx w S F L2 m' σ') true (.own [d]) r v) : Rel W0 S F n (s.ret (some d) r) (a.put (some d) v) w := by
  let m' : Id → Value := fun id => match id with | x :: p => if x = d then nav w p v else m (x :: p) | [] => m []
  let σ' := updL (killS s.σ [[d]] [[d]]) (opnA d r).2
  have hm' : ∀ p, m' ([d] ++ p) = nav w p v := fun p => by simp [m']
  have hk : Keep (cx w S F L m s.σ) (cx w S F L2 m' σ') [[d]] [[d]] := by
    refine ⟨⟨fun b h => ⟨h, rfl⟩, fun b h => ⟨h, rfl⟩⟩, fun _ h => h, fun y hy hl => ⟨?_, ?_⟩, fun y hy hl b q hb => ⟨?_, rfl⟩⟩
    · exact updL_live (.inl (killS_isSome.2 ⟨hy, hl⟩))
    · cases y with
      | nil => simp [hit, cmp] at hy
      | cons x p =>
        have : x ≠ d := fun e => by subst e; simp [hit, cmp] at hy
        show (if x = d then nav w p v else m (x :: p)) = m (x :: p)
        rw [if_neg this]
    · have hb' : L b = some (y ++ q) := hb
      show L2 b = some (y ++ q)
      rw [hL2]
      cases hLd : Ld b with
      | none => exact hb'
      | some p => rw [(hlabd b p hLd).2.2] at hb'; cases hb'
  obtain ⟨g1, g2⟩ := opnA_sound (hrep m' σ') hm' (fun x hx => updL_live (.inr ⟨x.2, hx⟩))
  have hcross : ∀ x ∈ (opnA d r).2, ∀ y, hit [[d]] y = false → cmp x.1 y = false := fun x hx y hy => by
    obtain ⟨p, hp⟩ := opnA_key x hx
    cases hc : cmp x.1 y with
    | false => rfl
    | true =>
      rw [hp] at hc
      have : cmp [d] y = true := by
        simp only [cmp, Bool.or_eq_true, List.isPrefixOf_iff_prefix] at hc ⊢
        rcases hc with ⟨z, hz⟩ | ⟨z, hz⟩
        · exact .inl ⟨p ++ z, by rw [← hz]; simp⟩
        · cases y with
          | nil => exact .inr ⟨[d], rfl⟩
          | cons u y =>
            have : u = d := by simpa using congrArg List.head? hz
            subst this
            exact .inl ⟨y, rfl⟩
      rw [show cmp [d] y = hit [[d]] y by simp [hit]] at this
      rw [hy] at this; cases this
  refine ⟨L2, m', ?_⟩
  refine ⟨by simpa [Act.put] using R.size, R.defers, fun k => ?_, fun id ob hob => ?_, fun b p hb => ?_, fun x y hx hy hc => ?_, R.old, R.below⟩
  · show Rep (cx w S F L2 m' σ') false (.read .ent) (upd (killE s.env [[d]] [[d]]) d (opnA d r).1 k) ((a.tmps.setIfInBounds d v).getD k undef)
    have hd' : d < a.tmps.size := by rw [R.size]; exact hd
    unfold upd
    by_cases e : k = d
    · subst e
      simpa [Array.getD, hd', sel] using g1
    · have e1 : (k == d) = false := by simpa using e
      have e2 : (a.tmps.setIfInBounds d v).getD k undef = a.tmps.getD k undef := by
        simp [Array.getD_eq_getD_getElem?, Ne.symm e]
      rw [e1, e2]
      exact Rep.keep hk _ _ (R.env k)
  · rcases updL_some hob with h1 | ⟨h1, _⟩
    · exact g2 _ h1
    · obtain ⟨hj, ob0, h0, rfl⟩ := killS_some h1
      exact RepOb.keep hk hj (show (s.σ id).isSome = true by rw [h0]; rfl) (R.obj id ob0 h0)
  · rw [hL2] at hb
    cases hLd : Ld b with
    | none => rw [hLd] at hb; exact R.lab b p hb
    | some p' => exact ⟨(hlabd b p' hLd).1, (hlabd b p' hLd).2.1⟩
  · obtain ⟨o1, h1⟩ := Option.isSome_iff_exists.1 hx
    obtain ⟨o2, h2⟩ := Option.isSome_iff_exists.1 hy
    rcases updL_some (show updL (killS s.σ [[d]] [[d]]) (opnA d r).2 x = some o1 from h1) with h1 | ⟨h1, _⟩ <;> rcases updL_some (show updL (killS s.σ [[d]] [[d]]) (opnA d r).2 y = some o2 from h2) with h2 | ⟨h2, _⟩
    · exact opnA_ind _ h1 _ h2 hc
    · rw [hcross _ h1 y (killS_some h2).1] at hc; cases hc
    · rw [cmp_symm, hcross _ h2 x (killS_some h1).1] at hc; cases hc
    · exact R.ind x y (by obtain ⟨_, _, g, _⟩ := killS_some h1; rw [g]; rfl) (by obtain ⟨_, _, g, _⟩ := killS_some h2; rw [g]; rfl) hc
theorem run_enter {o : Oper} {f : FuncId} {as : Array Operand} {ts : Array TypeId} (ho : o.op = .call ⟨.value (.func f), as, ts⟩) (he : (match P.funcs[f]? with | some fn => fn.body.isSome && fn.name != "runtime.NumGoroutine" | none => false) = true) :
    (execOp a.eval o).run P w = .ok (.enter f (as.map a.eval)) w := by
  split at he
  · rename_i fn hf
    simp only [Bool.and_eq_true, bne_iff_ne] at he
    obtain ⟨h1, h2⟩ := he
    have hb : fn.body.isNone = false := by cases hb : fn.body <;> simp_all
    have hb' : fn.body ≠ none := fun e => by rw [e] at h1; cases h1
    simp [execOp, ho, resolve, Act.eval, Deferred.ofValue, invoke, callFunc, hf, hb', h2]
  · cases he
theorem callG_sound {o : Oper} {f : FuncId} {vals : Array Value} (hd : dOk n o.dst) (R : RelC W0 S F n L m s a w) {lend : Bool} {cargs : List AV} {post : AV → Prop} (hM : Meets P f cargs post) (hpure : lend = true ∨ ∀ r, post r → r.pure)
    (hrun : (execOp a.eval o).run P w = .ok (.enter f vals) w) (hreps : RepVs (callC w S F L lend) true (.read .ent) 0 cargs vals.toList) (hK : ∀ r, post r → K (s.ret o.dst r)) (Q : Exit → Act → World → Prop) : o.wp P a w (fun a' w' => Lift W0 S F n K a' w' ∧ Grows w w') Q := by
  unfold Oper.wp
  rw [hrun, Oper.upon_enter]
  refine (hM.runs w (callS S F L lend) F [0] vals (fun b hb => ?_) hreps).mono fun e w' hR => ?_
  · have h1 : ∀ b, S b ∨ F b → b < w.heap.size := fun b hb => Nat.lt_of_lt_of_le (Bs.lt (R.old b hb)) R.below.size
    rcases hb with hb | hb
    · unfold callS at hb
      split at hb
      · exact h1 b (.inl hb)
      · rcases hb with hb | hb | ⟨p, hb⟩
        · exact h1 b (.inl hb)
        · exact h1 b (.inr hb)
        · exact (R.lab b p hb).2
    · exact h1 b (.inr hb)
  · obtain ⟨r, v, Lr, hpost, rfl, hrep, hlab, hbel⟩ := hR
    refine ⟨?_, hbel.size, fun b hb => hbel.block b hb⟩
    show Lift W0 S F n K (a.put o.dst v) w'
    have hK := hK r hpost
    have hbelow : W0.bel w' := R.below.trans (Bs.bel.of_below hbel (fun _ => False)) (fun _ h => h.elim)
    have R1 := R.grow (fun b hb => hbel.block b hb) hbelow hbel.size
    cases hdst : o.dst with
    | none =>
      rw [hdst] at hK
      exact ⟨s, ⟨L, m, R1⟩, hK⟩
    | some d =>
      rw [hdst] at hK hd
      refine ⟨_, R1.result (Ld := fun b => match Lr b with | some (_ :: p) => some (d :: p) | _ => none) hd (fun b => rfl) (fun b p hb => ?_) (fun m' σ' => ?_), hK⟩
      · have : ∃ q, Lr b = some q := by
          cases h : Lr b with
          | none => rw [h] at hb; cases hb
          | some q => exact ⟨q, rfl⟩
        obtain ⟨q, hq⟩ := this
        have h1 := hlab b q hq
        refine ⟨.inl (Nat.le_trans R.below.size h1.1), h1.2, ?_⟩
        cases hLb : L b with
        | none => rfl
        | some p' => have := (R.lab b p' hLb).2; omega
      · have htr : Tr ⟨w', callS S F L lend, F, Lr, fun _ => undef, fun _ => False⟩ (cx w' S F (fun b => match (match Lr b with | some (_ :: p) => some (d :: p) | _ => none : Option Id) with | some p => some p | none => L b) m' σ') (.own [0]) (.own [d]) := fun b q hb => ⟨by
          have hb' : Lr b = some (0 :: q) := hb
          show (match (match Lr b with | some (_ :: p) => some (d :: p) | _ => none : Option Id) with | some p => some p | none => L b) = _
          rw [hb']; rfl, rfl⟩
        rcases hpure with rfl | hpure
        · have hst : Stays ⟨w', callS S F L true, F, Lr, fun _ => undef, fun _ => False⟩ (cx w' S F (fun b => match (match Lr b with | some (_ :: p) => some (d :: p) | _ => none : Option Id) with | some p => some p | none => L b) m' σ') := ⟨fun b hb => ⟨by have h2 : callS S F L true b := hb; unfold callS at h2; rw [if_pos rfl] at h2; exact h2, rfl⟩, fun b hb => ⟨hb, rfl⟩⟩
          exact Rep.tr hst htr _ _ hrep
        · exact Rep.trP htr _ _ (hpure r hpost) hrep
theorem callR_sound {o : Oper} {f : FuncId} {as : Array Operand} {ts : Array TypeId} (ho : o.op = .call ⟨.value (.func f), as, ts⟩) (hd : dOk n o.dst) (R : RelC W0 S F n L m s a w)
    (h : ∃ lend cargs post, Meets P f cargs post ∧ (lend = true ∨ ∀ r, post r → r.pure) ∧ argsE P s lend (parTys P f) (as.toList.map s.ev) = some cargs ∧ ∀ r, post r → K (s.ret o.dst r)) (Q : Exit → Act → World → Prop) : o.wp P a w (fun a' w' => Lift W0 S F n K a' w' ∧ Grows w w') Q := by
  obtain ⟨lend, cargs, post, hM, hpure, hargs, hK⟩ := h
  exact callG_sound hd R hM hpure (run_enter ho hM.enters) (by simpa using args_sound R hargs 0) hK Q
theorem repVs_q {C : Cx} {cl : Bool} {o : Org} : ∀ {xs : List AV} {vs : List Value} {q q' : Nat}, RepVs C cl (.read o) q xs vs → RepVs C cl (.read o) q' xs vs
  | [], _, _, _, h => h
  | x :: xs, _, q, q', ⟨y, ys, e, h1, h2⟩ => ⟨y, ys, e, h1, repVs_q h2⟩
theorem repVs_append {C : Cx} {cl : Bool} : ∀ {xs ys : List AV} {vs us : List Value} {q q' : Nat}, RepVs C cl (.read .ent) q xs vs → RepVs C cl (.read .ent) q' ys us → RepVs C cl (.read .ent) q (xs ++ ys) (vs ++ us)
  | [], ys, vs, us, q, q', h, h' => by
    obtain rfl : vs = [] := h
    exact repVs_q h'
  | x :: xs, ys, vs, us, q, q', ⟨y, ys', e, h1, h2⟩, h' => ⟨y, ys' ++ us, by rw [e]; rfl, h1, repVs_append h2 h'⟩
theorem callV_sound {o : Oper} {f : FuncId} {x : Operand} {as : Array Operand} {ts : Array TypeId} (ho : o.op = .call ⟨.value x, as, ts⟩) (hd : dOk n o.dst) (R : RelC W0 S F n L m s a w) {cs : List AV}
    (hv : ∃ vs, a.eval x = .func (.func f) #[] vs ∧ RepVs (cx w S F L m s.σ) false (.read .ent) 0 cs vs.toList)
    (h : CallV P f (as.toList.map s.ev) cs s o.dst K) (Q : Exit → Act → World → Prop) : o.wp P a w (fun a' w' => Lift W0 S F n K a' w' ∧ Grows w w') Q := by
  obtain ⟨cargs, ccs, post, hM, hpure, hargs, hcs, hK⟩ := h
  obtain ⟨vs, he, hvs⟩ := hv
  refine callG_sound (lend := false) (vals := as.map a.eval ++ vs) hd R hM (.inr hpure) ?_ ?_ hK Q
  · have he' := hM.enters
    split at he'
    · rename_i fn hf
      simp only [Bool.and_eq_true, bne_iff_ne] at he'
      obtain ⟨h1, h2⟩ := he'
      have hb' : fn.body ≠ none := fun e => by rw [e] at h1; cases h1
      simp [execOp, ho, resolve, he, Deferred.ofValue, invoke, callFunc, hf, hb', h2]
    · cases he'
  · have h1 := args_sound R hargs 0
    have h2 := coeKL_sound R hcs (q := 0) hvs
    have := repVs_append h1 h2
    simpa using this
theorem argsV_sound (R : RelC W0 S F n L m s a w) : ∀ {xs : List AV} {ts : List TypeId} {cs : List AV} {ys : List Value} {q q' : Nat}, RepVs (cx w S F L m s.σ) false (.read .ent) q' xs ys → argsE P s false ts xs = some cs → RepVs (callC w S F L false) true (.read .ent) q cs ys
  | [], [], cs, ys, q, q', hr, h => by obtain rfl := Option.some.inj h; exact hr
  | [], _ :: _, cs, ys, q, q', hr, h => by cases h
  | x :: xs, [], cs, ys, q, q', hr, h => by cases h
  | x :: xs, t :: ts, cs, ys, q, q', hr, h => by
    obtain ⟨y, ys, rfl, h1, h2⟩ := hr
    simp only [argsE] at h
    obtain ⟨c, hc, h⟩ := bindO_eq h
    obtain ⟨cs', hcs, h⟩ := bindO_eq h
    obtain rfl := Option.some.inj h
    refine ⟨y, ys, rfl, ?_, argsV_sound R h2 hcs⟩
    obtain ⟨c0, hc0, hc⟩ := bindO_eq (show bindO _ _ = _ from hc)
    obtain rfl := Option.some.inj hc
    exact nilA_read (coeA_sound R hc0 h1) _
theorem run_method {t : TypeId} {nm : String} {f : Nat} (h : methF P t nm = some f) (k : Nat) (v : Value) (w : World) : (method (k + 1) t v nm).run P w = .ok (f, v) w := by
  unfold methF at h
  split at h
  · rename_i i d hi hd
    split at h
    · cases h
    · rename_i d' nm' sg f' hm hnp
      obtain rfl := Option.some.inj h
      obtain ⟨d, hd, hnp⟩ : ∃ d, P.underlying t = some d ∧ ∀ e, d ≠ .pointer e := ⟨_, hd, hnp⟩
      have hr : ∀ q, (receiverAt t (.val v) false q).run P w = .ok v w := fun q => by
        cases d <;> first | exact (hnp _ rfl).elim | simp [receiverAt, run_underlying hd, Place.get]
      simp [method, typeInfo, hi, hm, follow, hr]
    · cases h
  · cases h
theorem run_callMethod {t : TypeId} {nm : String} {f : Nat} (h : methF P t nm = some f) (he : (match P.funcs[f]? with | some fn => fn.body.isSome && fn.name != "runtime.NumGoroutine" | none => false) = true) (v : Value) (xs : Array Value) (w : World) : (callMethod (.iface t v) nm xs).run P w = .ok (.enter f (#[v] ++ xs)) w := by
  split at he
  · rename_i fn hf
    simp only [Bool.and_eq_true, bne_iff_ne] at he
    obtain ⟨h1, h2⟩ := he
    have hb' : fn.body ≠ none := fun e => by rw [e] at h1; cases h1
    have hk := run_method h (P.types.size + 99) v w
    have hk : (method (P.types.size + Made.depth) t v nm).run P w = .ok (f, v) w := hk
    simp [callMethod, hk, callFunc, hf, hb', h2]
  · cases he
theorem callI_sound {o : Oper} {f : FuncId} {x : Operand} {nm : String} {as : Array Operand} {ts : Array TypeId} (ho : o.op = .call ⟨.invoke x nm, as, ts⟩) (hd : dOk n o.dst) (R : RelC W0 S F n L m s a w) {t : TypeId} {y : AV}
    (hx : s.ev x = .ifc t y) (hm : methF P t nm = some f)
    (h : CallI P f (y :: as.toList.map s.ev) s o.dst K) (Q : Exit → Act → World → Prop) : o.wp P a w (fun a' w' => Lift W0 S F n K a' w' ∧ Grows w w') Q := by
  obtain ⟨cargs, post, hM, hpure, hargs, hK⟩ := h
  have hr := R.ev x
  rw [hx] at hr
  obtain ⟨v, he, hv⟩ := hr
  refine callG_sound (lend := false) (vals := #[v] ++ as.map a.eval) hd R hM (.inr hpure) ?_ ?_ hK Q
  · have h0 : (#[Value.iface t v] ++ as.map a.eval)[0]? = some (.iface t v) := by rw [Array.getElem?_append_left (Nat.zero_lt_succ 0)]; rfl
    have h1 : (#[Value.iface t v] ++ as.map a.eval).extract 1 (#[Value.iface t v] ++ as.map a.eval).size = as.map a.eval := by
      apply Array.toList_inj.1; rw [Array.toList_extract]; simp [List.take_of_length_le]
    have h3 : execOp a.eval o = (do let d ← resolve a.eval ⟨.invoke x nm, as, ts⟩ o.type; invoke d.target d.args) := by
      unfold execOp; rw [ho]
    have h2 : (execOp a.eval o).run P w = (callMethod (.iface t v) nm (as.map a.eval)).run P w := by
      rw [h3]
      simp only [resolve, he, Sem.run_bind, Sem.run_pure, Result.andThen_ok, invoke, h0, h1]
    rw [h2]
    exact run_callMethod hm hM.enters v _ w
  · have h1 : RepVs (cx w S F L m s.σ) false (.read .ent) 0 (y :: as.toList.map s.ev) (#[v] ++ as.map a.eval).toList := by
      rw [show (#[v] ++ as.map a.eval).toList = v :: as.toList.map a.eval by simp]
      exact ⟨v, as.toList.map a.eval, rfl, hv, reps_map R as.toList _⟩
    exact argsV_sound R h1 hargs
theorem callF_sound {o : Oper} {f : FuncId} {as : Array Operand} {ts : Array TypeId} (ho : o.op = .call ⟨.value (.func f), as, ts⟩) (hd : dOk n o.dst) (R : RelC W0 S F n L m s a w)
    (h : ∃ cargs post, Meets P f cargs post ∧ (∀ r, post r → r.nf) ∧ s.frzE (as.toList.map s.ev) = some cargs ∧ ∀ r, post r → K (s.ret o.dst r)) (Q : Exit → Act → World → Prop) : o.wp P a w (fun a' w' => Lift W0 S F n K a' w' ∧ Grows w w') Q := by
  obtain ⟨cargs, post, hM, hpure, hargs, hK⟩ := h
  unfold Oper.wp
  rw [run_enter ho hM.enters, Oper.upon_enter]
  have hreps := frzE_sound R hargs 0
  refine (hM.runs w S (frzS F L) [0] (as.map a.eval) (fun b hb => ?_) (by simpa [frzX] using hreps)).mono fun e w' hR => ?_
  · have h1 : ∀ b, S b ∨ F b → b < w.heap.size := fun b hb => Nat.lt_of_lt_of_le (Bs.lt (R.old b hb)) R.below.size
    rcases hb with hb | hb | ⟨p, hb⟩
    · exact h1 b (.inl hb)
    · exact h1 b (.inr hb)
    · exact (R.lab b p hb).2
  · obtain ⟨r, v, Lr, hpost, rfl, hrep, hlab, hbel⟩ := hR
    refine ⟨?_, hbel.size, fun b hb => hbel.block b hb⟩
    show Lift W0 S F n K (a.put o.dst v) w'
    have hK := hK r hpost
    have hbelow : W0.bel w' := R.below.trans (Bs.bel.of_below hbel (fun _ => False)) (fun _ h => h.elim)
    have R1 := R.grow (fun b hb => hbel.block b hb) hbelow hbel.size
    cases hdst : o.dst with
    | none =>
      rw [hdst] at hK
      exact ⟨s, ⟨L, m, R1⟩, hK⟩
    | some d =>
      rw [hdst] at hK hd
      refine ⟨_, R1.result (Ld := fun b => match Lr b with | some (_ :: p) => some (d :: p) | _ => none) hd (fun b => rfl) (fun b p hb => ?_) (fun m' σ' => ?_), hK⟩
      · have : ∃ q, Lr b = some q := by
          cases h : Lr b with
          | none => rw [h] at hb; cases hb
          | some q => exact ⟨q, rfl⟩
        obtain ⟨q, hq⟩ := this
        have h1 := hlab b q hq
        refine ⟨.inl (Nat.le_trans R.below.size h1.1), h1.2, ?_⟩
        cases hLb : L b with
        | none => rfl
        | some p' => have := (R.lab b p' hLb).2; omega
      · have htr : Tr ⟨w', S, frzS F L, Lr, fun _ => undef, fun _ => False⟩ (cx w' S F (fun b => match (match Lr b with | some (_ :: p) => some (d :: p) | _ => none : Option Id) with | some p => some p | none => L b) m' σ') (.own [0]) (.own [d]) := fun b q hb => ⟨by
          have hb' : Lr b = some (0 :: q) := hb
          show (match (match Lr b with | some (_ :: p) => some (d :: p) | _ => none : Option Id) with | some p => some p | none => L b) = _
          rw [hb']; rfl, rfl⟩
        refine Rep.trN ?_ htr _ _ (hpure r hpost) hrep
        exact fun b hb => ⟨hb, rfl⟩
end
end Go.Ev
