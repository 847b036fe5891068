/- Part 1 of what the row leans on: the evaluator, words, contracts of functions; pruned by a program of ours. -/
import Derived.Below
import Derived.Deep.Draws
import Derived.Deep.LoopGhost
import Derived.StillTail
import Derived.MapKept
set_option linter.unusedVariables false
set_option linter.unusedSimpArgs false
namespace Go.Ev
open Go Go.RowKit
abbrev Id := List Nat
inductive Org where
  | ent
  | frz
  | obj (id : Id)
  | at (id : Id) (sz i k : Nat)
  deriving DecidableEq
inductive AV where
  | any
  | v (u : Value)
  | row (e sz : Nat) (els : List (List AV))
  | rd (o : Org) (e sz : Nat) (els : List (List AV))
  | rp (o : Org) (e sz : Nat) (els : List (List AV)) (i k : Nat)
  | ref (id : Id)
  | ptr (id : Id) (sz i k : Nat)
  | agg (cs : List AV)
  | tup (cs : List AV)
  | bx (t : Nat) (cs : List AV)
  | ifc (t : Nat) (a : AV)
  | fn (f : Nat) (cs : List AV)
inductive Md where
  | own (p : Id)
  | read (o : Org)
def Md.sub (q : Nat) : Md → Md
  | .own p => .own (p ++ [q])
  | .read o => .read o
structure Cx where
  w : World
  ent : Nat → Prop
  frz : Nat → Prop
  L : Nat → Option Id
  m : Id → Value
  live : Id → Prop
def Cx.alive (C : Cx) : Org → Prop
  | .obj id => C.live id
  | .at id _ _ _ => C.live id
  | _ => True
def Cx.st (C : Cx) : Org → Nat → Prop
  | .ent, b => C.ent b
  | .frz, b => C.frz b
  | .obj id, b => ∃ q, C.L b = some (id ++ q)
  | .at id _ _ _, b => ∃ q, C.L b = some (id ++ q)
def one : Value → Prop
  | .agg _ => False
  | .tuple _ => False
  | _ => True
def isObj : Org → Bool
  | .obj _ => true
  | .at _ _ _ _ => true
  | _ => false
def BIG : Nat := 140737488355328
theorem BIG_eq : BIG = 140737488355328 := rfl
def unfrozen (fr : Nat × Nat) (o n : Nat) : Prop := ∀ i, i < n → o + i < fr.1 ∨ fr.1 = fr.2
theorem unfrozen.no {fr : Nat × Nat} {o n : Nat} (h : unfrozen fr o n) {i : Nat} (hi : i < n) : ¬ (fr.1 ≤ o + i ∧ o + i < fr.2) := by
  rcases h i hi with h | h <;> omega
def hdrAddr : Value → Option Addr
  | .pointer a => a
  | .slice a _ _ => a
  | _ => none
def Cx.hdr (C : Cx) : Org → Value → Prop
  | .at id sz i k, x => ∃ g off, hdrAddr (C.m id) = some ⟨g, off, none⟩ ∧ C.L g = some id ∧ C.w.cell? ⟨g, off + (i * sz + k), none⟩ = some x
  | _, _ => True
theorem Cx.hdr_of {C : Cx} {x : Value} : ∀ {o : Org}, isObj o = false → C.hdr o x
  | .ent, _ => trivial
  | .frz, _ => trivial
  | .obj _, _ => trivial
  | .at _ _ _ _, h => by cases h
mutual
/-- Value x is what the shape says; 'cl': no object of the call's own is named in it. -/
def Rep (C : Cx) (cl : Bool) (md : Md) : AV → Value → Prop
  | .any, _ => True
  | .v u, x => x = u ∧ one u
  | .row e sz els, x =>
    match md with
    | .read o => C.alive o ∧ ∃ A c, x = .slice A els.length c ∧ els.length ≤ c ∧ els.length ≤ BIG ∧ (els = [] ∨ ∃ b off, A = some ⟨b, off, none⟩ ∧ C.st o b ∧ RepEls C (.read o) b off 0 sz els)
    | .own p => ∃ A c, x = .slice A els.length c ∧ ((els = [] ∧ A = none ∧ c = 0) ∨
        ∃ g off arr fr q, A = some ⟨g, off, none⟩ ∧ C.L g = some p ∧ C.w.heap[g]? = some (.cells arr e fr) ∧ els.length ≤ c ∧ off + c * sz ≤ arr.size ∧ unfrozen fr off (c * sz) ∧ els.length ≤ BIG ∧
          RepEls C (.own p) g off q sz els)
  | .rd o _ sz els, x => (isObj o && cl) = false ∧ (C.alive o ∧ C.hdr o x) ∧ ∃ A c, x = .slice A els.length c ∧ els.length ≤ c ∧ els.length ≤ BIG ∧ (els = [] ∨ ∃ b off, A = some ⟨b, off, none⟩ ∧ C.st o b ∧ RepEls C (.read o) b off 0 sz els)
  | .rp o _ sz els i k, x => cl = false ∧ C.alive o ∧ ∃ b off, x = .pointer (some ⟨b, off + i * sz + k, none⟩) ∧ C.st o b ∧ RepEls C (.read o) b off 0 sz els
  | .ref id, x => cl = false ∧ one x ∧ C.live id ∧ x = C.m id
  | .ptr id sz i k, x => cl = false ∧ C.live id ∧ ∃ g off, hdrAddr (C.m id) = some ⟨g, off, none⟩ ∧ x = .pointer (some ⟨g, off + i * sz + k, none⟩)
  | .agg cs, x => ∃ vs, x = .agg vs ∧ RepVs C cl md 0 cs vs.toList
  | .tup cs, x => ∃ vs, x = .tuple vs ∧ RepVs C cl md 0 cs vs.toList
  | .bx t cs, x =>
    match md with
    | .read o => C.alive o ∧ ∃ g off, x = .pointer (some ⟨g, off, none⟩) ∧ C.st o g ∧ RepCs C true (.read o) g off 0 cs
    | .own p => ∃ g arr, x = .pointer (some ⟨g, 0, none⟩) ∧ C.L g = some (p ++ [0]) ∧ C.w.heap[g]? = some (.cells arr t (0, 0)) ∧ arr.size = cs.length ∧ RepCs C true (.own (p ++ [1])) g 0 0 cs
  | .ifc t a, x => ∃ v, x = .iface t v ∧ Rep C cl md a v
  | .fn f cs, x => ∃ vs, x = .func (.func f) #[] vs ∧ RepVs C cl md 0 cs vs.toList
/-- Values side by side. -/
def RepVs (C : Cx) (cl : Bool) (md : Md) (q : Nat) : List AV → List Value → Prop
  | [], vs => vs = []
  | c :: cs, vs => ∃ y ys, vs = y :: ys ∧ Rep C cl (md.sub q) c y ∧ RepVs C cl md (q + 1) cs ys
/-- Cells in memory, from offset off of block b on. -/
def RepCs (C : Cx) (cl : Bool) (md : Md) (b off q : Nat) : List AV → Prop
  | [] => True
  | c :: cs => (∃ y, C.w.cell? ⟨b, off, none⟩ = some y ∧ one y ∧ Rep C cl (md.sub q) c y) ∧ RepCs C cl md b (off + 1) (q + 1) cs
/-- Elements in memory: the first is at off. -/
def RepEls (C : Cx) (md : Md) (b off q sz : Nat) : List (List AV) → Prop
  | [] => True
  | e :: es => e.length = sz ∧ RepCs C true md b off q e ∧ RepEls C md b (off + sz) (q + sz) sz es
end
def Tr (C C' : Cx) : Md → Md → Prop
  | .own p, .own p' => ∀ b q, C.L b = some (p ++ q) → C'.L b = some (p' ++ q) ∧ C'.w.heap[b]? = C.w.heap[b]?
  | .own p, .read o => C'.alive o ∧ ∀ b q, C.L b = some (p ++ q) → C'.st o b ∧ C'.w.heap[b]? = C.w.heap[b]?
  | .read o, .read o' => (C.alive o → C'.alive o') ∧ ∀ b, C.st o b → C'.st o' b ∧ C'.w.heap[b]? = C.w.heap[b]?
  | .read _, .own _ => False
structure Stays (C C' : Cx) : Prop where
  ent : ∀ b, C.ent b → C'.ent b ∧ C'.w.heap[b]? = C.w.heap[b]?
  frz : ∀ b, C.frz b → C'.frz b ∧ C'.w.heap[b]? = C.w.heap[b]?
theorem Tr.sub {C C' : Cx} {md md' : Md} (h : Tr C C' md md') (q : Nat) : Tr C C' (md.sub q) (md'.sub q) := by
  cases md with
  | own p =>
    cases md' with
    | own p' => intro b r hb; rw [List.append_assoc] at hb ⊢; exact h b _ hb
    | read o => exact ⟨h.1, fun b r hb => by rw [List.append_assoc] at hb; exact h.2 b _ hb⟩
  | read o =>
    cases md' with
    | own p' => exact h
    | read o' => exact h
theorem Stays.org {C C' : Cx} (h : Stays C C') : ∀ o, isObj o = false → Tr C C' (.read o) (.read o)
  | .ent, _ => ⟨id, fun b hb => h.ent b hb⟩
  | .frz, _ => ⟨id, fun b hb => h.frz b hb⟩
  | .obj _, h' => by cases h'
  | .at _ _ _ _, h' => by cases h'
def Md.isRead : Md → Bool
  | .read _ => true
  | .own _ => false
theorem Md.sub_eq {md : Md} {q q' : Nat} (h : md.isRead = true ∨ q' = q) : md.sub q' = md.sub q := by
  rcases h with h | rfl
  · cases md with
    | own p => cases h
    | read o => rfl
  · rfl
theorem cell_same {w w' : World} {b : Nat} (h : w'.heap[b]? = w.heap[b]?) (o : Nat) : w'.cell? ⟨b, o, none⟩ = w.cell? ⟨b, o, none⟩ := by
  unfold World.cell?; rw [h]
mutual
theorem Rep.tr {C C' : Cx} (hs : Stays C C') {md md' : Md} (hm : Tr C C' md md') : ∀ (a : AV) (x : Value), Rep C true md a x → Rep C' true md' a x
  | .any, _, _ => trivial
  | .v u, x, h => h
  | .row e sz els, x, h => by
    cases md with
    | read o =>
      cases md' with
      | own p' => exact hm.elim
      | read o' =>
        obtain ⟨ha, A, c, rfl, h1, h2, h3⟩ := h
        refine ⟨hm.1 ha, A, c, rfl, h1, h2, ?_⟩
        rcases h3 with h3 | ⟨b, off, rfl, hb, hr⟩
        · exact .inl h3
        · have := hm.2 b hb
          exact .inr ⟨b, off, rfl, this.1, RepEls.tr hs hm els this.2 (.inr rfl) hr⟩
    | own p =>
      obtain ⟨A, c, rfl, h⟩ := h
      cases md' with
      | own p' =>
        refine ⟨A, c, rfl, ?_⟩
        rcases h with h | ⟨g, off, arr, fr, q, rfl, hL, hh, h1, h2, h3, h4, h5⟩
        · exact .inl h
        · have := hm g [] (by simpa using hL)
          exact .inr ⟨g, off, arr, fr, q, rfl, by simpa using this.1, this.2.trans hh, h1, h2, h3, h4, RepEls.tr hs hm els this.2 (.inr rfl) h5⟩
      | read o =>
        refine ⟨hm.1, A, c, rfl, ?_⟩
        rcases h with ⟨rfl, rfl, rfl⟩ | ⟨g, off, arr, fr, q, rfl, hL, hh, h1, h2, h3, h4, h5⟩
        · exact ⟨Nat.le_refl _, Nat.zero_le _, .inl rfl⟩
        · have := hm.2 g [] (by simpa using hL)
          exact ⟨h1, h4, .inr ⟨g, off, rfl, this.1, RepEls.tr hs hm els this.2 (.inl rfl) h5⟩⟩
  | .rd o e sz els, x, h => by
    have ho : isObj o = false := by simpa using h.1
    have hm' := hs.org o ho
    obtain ⟨h0, ⟨ha, _⟩, A, c, rfl, h1, h2, h3⟩ := h
    refine ⟨h0, ⟨hm'.1 ha, Cx.hdr_of ho⟩, A, c, rfl, h1, h2, ?_⟩
    rcases h3 with h3 | ⟨b, off, rfl, hb, hr⟩
    · exact .inl h3
    · have := hm'.2 b hb
      exact .inr ⟨b, off, rfl, this.1, RepEls.tr hs hm' els this.2 (.inr rfl) hr⟩
  | .rp .., x, h => by exact absurd h.1 (by simp)
  | .ref _, x, h => by exact absurd h.1 (by simp)
  | .ptr .., x, h => by exact absurd h.1 (by simp)
  | .agg cs, x, h => by
    obtain ⟨vs, rfl, h⟩ := h
    exact ⟨vs, rfl, RepVs.tr hs hm cs vs.toList 0 h⟩
  | .tup cs, x, h => by
    obtain ⟨vs, rfl, h⟩ := h
    exact ⟨vs, rfl, RepVs.tr hs hm cs vs.toList 0 h⟩
  | .bx t cs, x, h => by
    cases md with
    | read o =>
      cases md' with
      | own p' => exact hm.elim
      | read o' =>
        obtain ⟨ha, g, off, rfl, h1, h2⟩ := h
        have := hm.2 g h1
        exact ⟨hm.1 ha, g, off, rfl, this.1, RepCs.tr hs hm cs this.2 (.inl rfl) h2⟩
    | own p =>
      obtain ⟨g, arr, rfl, h1, h2, h3, h4⟩ := h
      cases md' with
      | own p' =>
        have := hm g [0] h1
        exact ⟨g, arr, rfl, this.1, this.2.trans h2, h3, RepCs.tr hs (Tr.sub hm 1) cs this.2 (.inr rfl) h4⟩
      | read o =>
        have := hm.2 g [0] h1
        exact ⟨hm.1, g, 0, rfl, this.1, RepCs.tr hs (Tr.sub hm 1) cs this.2 (.inl rfl) h4⟩
  | .ifc t a, x, h => by
    obtain ⟨v, rfl, h⟩ := h
    exact ⟨v, rfl, Rep.tr hs hm a v h⟩
  | .fn f cs, x, h => by
    obtain ⟨vs, rfl, h⟩ := h
    exact ⟨vs, rfl, RepVs.tr hs hm cs vs.toList 0 h⟩
theorem RepVs.tr {C C' : Cx} (hs : Stays C C') {md md' : Md} (hm : Tr C C' md md') : ∀ (cs : List AV) (vs : List Value) (q : Nat), RepVs C true md q cs vs → RepVs C' true md' q cs vs
  | [], vs, _, h => h
  | c :: cs, vs, q, h => by
    obtain ⟨y, ys, rfl, h1, h2⟩ := h
    exact ⟨y, ys, rfl, Rep.tr hs (Tr.sub hm q) c y h1, RepVs.tr hs hm cs ys (q + 1) h2⟩
theorem RepCs.tr {C C' : Cx} (hs : Stays C C') {md md' : Md} (hm : Tr C C' md md') : ∀ (cs : List AV) {b : Nat}, C'.w.heap[b]? = C.w.heap[b]? → ∀ {off q q' : Nat}, md'.isRead = true ∨ q' = q → RepCs C true md b off q cs → RepCs C' true md' b off q' cs
  | [], _, _, _, _, _, _, _ => trivial
  | c :: cs, b, hb, off, q, q', hq, h => by
    obtain ⟨⟨y, h1, h2, h3⟩, h4⟩ := h
    exact ⟨⟨y, (cell_same hb off).trans h1, h2, by rw [Md.sub_eq hq]; exact Rep.tr hs (Tr.sub hm q) c y h3⟩, RepCs.tr hs hm cs hb (hq.imp id (by omega)) h4⟩
theorem RepEls.tr {C C' : Cx} (hs : Stays C C') {md md' : Md} (hm : Tr C C' md md') : ∀ (els : List (List AV)) {b : Nat}, C'.w.heap[b]? = C.w.heap[b]? → ∀ {off q q' sz : Nat}, md'.isRead = true ∨ q' = q → RepEls C md b off q sz els → RepEls C' md' b off q' sz els
  | [], _, _, _, _, _, _, _, _ => trivial
  | e :: es, b, hb, off, q, q', sz, hq, h => by
    obtain ⟨h1, h2, h3⟩ := h
    exact ⟨h1, RepCs.tr hs hm e hb hq h2, RepEls.tr hs hm es hb (hq.imp id (by omega)) h3⟩
end
mutual
def AV.pure : AV → Prop
  | .any => True
  | .v _ => True
  | .row _ _ els => pureEls els
  | .agg cs => pureCs cs
  | .tup cs => pureCs cs
  | .bx _ cs => pureCs cs
  | .ifc _ a => a.pure
  | .fn _ cs => pureCs cs
  | _ => False
def pureCs : List AV → Prop
  | [] => True
  | c :: cs => c.pure ∧ pureCs cs
def pureEls : List (List AV) → Prop
  | [] => True
  | e :: es => pureCs e ∧ pureEls es
end
mutual
theorem Rep.trP {C C' : Cx} {md md' : Md} (hm : Tr C C' md md') : ∀ (a : AV) (x : Value), a.pure → Rep C true md a x → Rep C' true md' a x
  | .any, _, _, _ => trivial
  | .v u, x, _, h => h
  | .row e sz els, x, hp, h => by
    have hp : pureEls els := hp
    cases md with
    | read o =>
      cases md' with
      | own p' => exact hm.elim
      | read o' =>
        obtain ⟨ha, A, c, rfl, h1, h2, h3⟩ := h
        refine ⟨hm.1 ha, A, c, rfl, h1, h2, ?_⟩
        rcases h3 with h3 | ⟨b, off, rfl, hb, hr⟩
        · exact .inl h3
        · have := hm.2 b hb
          exact .inr ⟨b, off, rfl, this.1, RepEls.trP hm els hp this.2 (.inr rfl) hr⟩
    | own p =>
      obtain ⟨A, c, rfl, h⟩ := h
      cases md' with
      | own p' =>
        refine ⟨A, c, rfl, ?_⟩
        rcases h with h | ⟨g, off, arr, fr, q, rfl, hL, hh, h1, h2, h3, h4, h5⟩
        · exact .inl h
        · have := hm g [] (by simpa using hL)
          exact .inr ⟨g, off, arr, fr, q, rfl, by simpa using this.1, this.2.trans hh, h1, h2, h3, h4, RepEls.trP hm els hp this.2 (.inr rfl) h5⟩
      | read o =>
        refine ⟨hm.1, A, c, rfl, ?_⟩
        rcases h with ⟨rfl, rfl, rfl⟩ | ⟨g, off, arr, fr, q, rfl, hL, hh, h1, h2, h3, h4, h5⟩
        · exact ⟨Nat.le_refl _, Nat.zero_le _, .inl rfl⟩
        · have := hm.2 g [] (by simpa using hL)
          exact ⟨h1, h4, .inr ⟨g, off, rfl, this.1, RepEls.trP hm els hp this.2 (.inl rfl) h5⟩⟩
  | .rd .., x, hp, _ => hp.elim
  | .rp .., x, hp, _ => hp.elim
  | .ref _, x, hp, _ => hp.elim
  | .ptr .., x, hp, _ => hp.elim
  | .agg cs, x, hp, h => by
    obtain ⟨vs, rfl, h⟩ := h
    exact ⟨vs, rfl, RepVs.trP hm cs vs.toList 0 hp h⟩
  | .tup cs, x, hp, h => by
    obtain ⟨vs, rfl, h⟩ := h
    exact ⟨vs, rfl, RepVs.trP hm cs vs.toList 0 hp h⟩
  | .bx t cs, x, hp, h => by
    cases md with
    | read o =>
      cases md' with
      | own p' => exact hm.elim
      | read o' =>
        obtain ⟨ha, g, off, rfl, h1, h2⟩ := h
        have := hm.2 g h1
        exact ⟨hm.1 ha, g, off, rfl, this.1, RepCs.trP hm cs hp this.2 (.inl rfl) h2⟩
    | own p =>
      obtain ⟨g, arr, rfl, h1, h2, h3, h4⟩ := h
      cases md' with
      | own p' =>
        have := hm g [0] h1
        exact ⟨g, arr, rfl, this.1, this.2.trans h2, h3, RepCs.trP (Tr.sub hm 1) cs hp this.2 (.inr rfl) h4⟩
      | read o =>
        have := hm.2 g [0] h1
        exact ⟨hm.1, g, 0, rfl, this.1, RepCs.trP (Tr.sub hm 1) cs hp this.2 (.inl rfl) h4⟩
  | .ifc t a, x, hp, h => by
    obtain ⟨v, rfl, h⟩ := h
    exact ⟨v, rfl, Rep.trP hm a v hp h⟩
  | .fn f cs, x, hp, h => by
    obtain ⟨vs, rfl, h⟩ := h
    exact ⟨vs, rfl, RepVs.trP hm cs vs.toList 0 hp h⟩
theorem RepVs.trP {C C' : Cx} {md md' : Md} (hm : Tr C C' md md') : ∀ (cs : List AV) (vs : List Value) (q : Nat), pureCs cs → RepVs C true md q cs vs → RepVs C' true md' q cs vs
  | [], vs, _, _, h => h
  | c :: cs, vs, q, hp, h => by
    obtain ⟨y, ys, rfl, h1, h2⟩ := h
    exact ⟨y, ys, rfl, Rep.trP (Tr.sub hm q) c y hp.1 h1, RepVs.trP hm cs ys (q + 1) hp.2 h2⟩
theorem RepCs.trP {C C' : Cx} {md md' : Md} (hm : Tr C C' md md') : ∀ (cs : List AV), pureCs cs → ∀ {b : Nat}, C'.w.heap[b]? = C.w.heap[b]? → ∀ {off q q' : Nat}, md'.isRead = true ∨ q' = q → RepCs C true md b off q cs → RepCs C' true md' b off q' cs
  | [], _, _, _, _, _, _, _, _ => trivial
  | c :: cs, hp, b, hb, off, q, q', hq, h => by
    obtain ⟨⟨y, h1, h2, h3⟩, h4⟩ := h
    exact ⟨⟨y, (cell_same hb off).trans h1, h2, by rw [Md.sub_eq hq]; exact Rep.trP (Tr.sub hm q) c y hp.1 h3⟩, RepCs.trP hm cs hp.2 hb (hq.imp id (by omega)) h4⟩
theorem RepEls.trP {C C' : Cx} {md md' : Md} (hm : Tr C C' md md') : ∀ (els : List (List AV)), pureEls els → ∀ {b : Nat}, C'.w.heap[b]? = C.w.heap[b]? → ∀ {off q q' sz : Nat}, md'.isRead = true ∨ q' = q → RepEls C md b off q sz els → RepEls C' md' b off q' sz els
  | [], _, _, _, _, _, _, _, _, _ => trivial
  | e :: es, hp, b, hb, off, q, q', sz, hq, h => by
    obtain ⟨h1, h2, h3⟩ := h
    exact ⟨h1, RepCs.trP hm e hp.1 hb hq h2, RepEls.trP hm es hp.2 hb (hq.imp id (by omega)) h3⟩
end
mutual
def AV.nf : AV → Prop
  | .any => True
  | .v _ => True
  | .row _ _ els => nfEls els
  | .rd o _ _ els => o = .ent ∧ nfEls els
  | .agg cs => nfCs cs
  | .tup cs => nfCs cs
  | .bx _ cs => nfCs cs
  | .ifc _ a => a.nf
  | .fn _ cs => nfCs cs
  | _ => False
def nfCs : List AV → Prop
  | [] => True
  | c :: cs => c.nf ∧ nfCs cs
def nfEls : List (List AV) → Prop
  | [] => True
  | e :: es => nfCs e ∧ nfEls es
end
mutual
theorem Rep.trN {C C' : Cx} (hs : ∀ b, C.ent b → C'.ent b ∧ C'.w.heap[b]? = C.w.heap[b]?) {md md' : Md} (hm : Tr C C' md md') : ∀ (a : AV) (x : Value), a.nf → Rep C true md a x → Rep C' true md' a x
  | .any, _, _, _ => trivial
  | .v u, x, _, h => h
  | .row e sz els, x, hp, h => by
    have hp : nfEls els := hp
    cases md with
    | read o =>
      cases md' with
      | own p' => exact hm.elim
      | read o' =>
        obtain ⟨ha, A, c, rfl, h1, h2, h3⟩ := h
        refine ⟨hm.1 ha, A, c, rfl, h1, h2, ?_⟩
        rcases h3 with h3 | ⟨b, off, rfl, hb, hr⟩
        · exact .inl h3
        · have := hm.2 b hb
          exact .inr ⟨b, off, rfl, this.1, RepEls.trN hs hm els hp this.2 (.inr rfl) hr⟩
    | own p =>
      obtain ⟨A, c, rfl, h⟩ := h
      cases md' with
      | own p' =>
        refine ⟨A, c, rfl, ?_⟩
        rcases h with h | ⟨g, off, arr, fr, q, rfl, hL, hh, h1, h2, h3, h4, h5⟩
        · exact .inl h
        · have := hm g [] (by simpa using hL)
          exact .inr ⟨g, off, arr, fr, q, rfl, by simpa using this.1, this.2.trans hh, h1, h2, h3, h4, RepEls.trN hs hm els hp this.2 (.inr rfl) h5⟩
      | read o =>
        refine ⟨hm.1, A, c, rfl, ?_⟩
        rcases h with ⟨rfl, rfl, rfl⟩ | ⟨g, off, arr, fr, q, rfl, hL, hh, h1, h2, h3, h4, h5⟩
        · exact ⟨Nat.le_refl _, Nat.zero_le _, .inl rfl⟩
        · have := hm.2 g [] (by simpa using hL)
          exact ⟨h1, h4, .inr ⟨g, off, rfl, this.1, RepEls.trN hs hm els hp this.2 (.inl rfl) h5⟩⟩
  | .rd o e sz els, x, hp, h => by
    obtain ⟨rfl, hp⟩ := (hp : o = .ent ∧ nfEls els)
    have hm' : Tr C C' (.read .ent) (.read .ent) := ⟨id, fun b hb => hs b hb⟩
    obtain ⟨h0, ⟨ha, _⟩, A, c, rfl, h1, h2, h3⟩ := h
    refine ⟨h0, ⟨trivial, trivial⟩, A, c, rfl, h1, h2, ?_⟩
    rcases h3 with h3 | ⟨b, off, rfl, hb, hr⟩
    · exact .inl h3
    · have := hs b hb
      exact .inr ⟨b, off, rfl, this.1, RepEls.trN hs hm' els hp this.2 (.inr rfl) hr⟩
  | .rp .., x, hp, _ => hp.elim
  | .ref _, x, hp, _ => hp.elim
  | .ptr .., x, hp, _ => hp.elim
  | .agg cs, x, hp, h => by
    obtain ⟨vs, rfl, h⟩ := h
    exact ⟨vs, rfl, RepVs.trN hs hm cs vs.toList 0 hp h⟩
  | .tup cs, x, hp, h => by
    obtain ⟨vs, rfl, h⟩ := h
    exact ⟨vs, rfl, RepVs.trN hs hm cs vs.toList 0 hp h⟩
  | .bx t cs, x, hp, h => by
    cases md with
    | read o =>
      cases md' with
      | own p' => exact hm.elim
      | read o' =>
        obtain ⟨ha, g, off, rfl, h1, h2⟩ := h
        have := hm.2 g h1
        exact ⟨hm.1 ha, g, off, rfl, this.1, RepCs.trN hs hm cs hp this.2 (.inl rfl) h2⟩
    | own p =>
      obtain ⟨g, arr, rfl, h1, h2, h3, h4⟩ := h
      cases md' with
      | own p' =>
        have := hm g [0] h1
        exact ⟨g, arr, rfl, this.1, this.2.trans h2, h3, RepCs.trN hs (Tr.sub hm 1) cs hp this.2 (.inr rfl) h4⟩
      | read o =>
        have := hm.2 g [0] h1
        exact ⟨hm.1, g, 0, rfl, this.1, RepCs.trN hs (Tr.sub hm 1) cs hp this.2 (.inl rfl) h4⟩
  | .ifc t a, x, hp, h => by
    obtain ⟨v, rfl, h⟩ := h
    exact ⟨v, rfl, Rep.trN hs hm a v hp h⟩
  | .fn f cs, x, hp, h => by
    obtain ⟨vs, rfl, h⟩ := h
    exact ⟨vs, rfl, RepVs.trN hs hm cs vs.toList 0 hp h⟩
theorem RepVs.trN {C C' : Cx} (hs : ∀ b, C.ent b → C'.ent b ∧ C'.w.heap[b]? = C.w.heap[b]?) {md md' : Md} (hm : Tr C C' md md') : ∀ (cs : List AV) (vs : List Value) (q : Nat), nfCs cs → RepVs C true md q cs vs → RepVs C' true md' q cs vs
  | [], vs, _, _, h => h
  | c :: cs, vs, q, hp, h => by
    obtain ⟨y, ys, rfl, h1, h2⟩ := h
    exact ⟨y, ys, rfl, Rep.trN hs (Tr.sub hm q) c y hp.1 h1, RepVs.trN hs hm cs ys (q + 1) hp.2 h2⟩
theorem RepCs.trN {C C' : Cx} (hs : ∀ b, C.ent b → C'.ent b ∧ C'.w.heap[b]? = C.w.heap[b]?) {md md' : Md} (hm : Tr C C' md md') : ∀ (cs : List AV), nfCs cs → ∀ {b : Nat}, C'.w.heap[b]? = C.w.heap[b]? → ∀ {off q q' : Nat}, md'.isRead = true ∨ q' = q → RepCs C true md b off q cs → RepCs C' true md' b off q' cs
  | [], _, _, _, _, _, _, _, _ => trivial
  | c :: cs, hp, b, hb, off, q, q', hq, h => by
    obtain ⟨⟨y, h1, h2, h3⟩, h4⟩ := h
    exact ⟨⟨y, (cell_same hb off).trans h1, h2, by rw [Md.sub_eq hq]; exact Rep.trN hs (Tr.sub hm q) c y hp.1 h3⟩, RepCs.trN hs hm cs hp.2 hb (hq.imp id (by omega)) h4⟩
theorem RepEls.trN {C C' : Cx} (hs : ∀ b, C.ent b → C'.ent b ∧ C'.w.heap[b]? = C.w.heap[b]?) {md md' : Md} (hm : Tr C C' md md') : ∀ (els : List (List AV)), nfEls els → ∀ {b : Nat}, C'.w.heap[b]? = C.w.heap[b]? → ∀ {off q q' sz : Nat}, md'.isRead = true ∨ q' = q → RepEls C md b off q sz els → RepEls C' md' b off q' sz els
  | [], _, _, _, _, _, _, _, _, _ => trivial
  | e :: es, hp, b, hb, off, q, q', sz, hq, h => by
    obtain ⟨h1, h2, h3⟩ := h
    exact ⟨h1, RepCs.trN hs hm e hp.1 hb hq h2, RepEls.trN hs hm es hp.2 hb (hq.imp id (by omega)) h3⟩
end
mutual
theorem Rep.loose {C : Cx} : ∀ {md : Md} (a : AV) (x : Value), Rep C true md a x → Rep C false md a x
  | _, .any, _, _ => trivial
  | _, .v u, x, h => h
  | _, .row e sz els, x, h => h
  | _, .rd .., x, h => ⟨by simp, h.2⟩
  | _, .rp .., x, h => by exact absurd h.1 (by simp)
  | _, .ref _, x, h => by exact absurd h.1 (by simp)
  | _, .ptr .., x, h => by exact absurd h.1 (by simp)
  | _, .agg cs, x, h => by
    obtain ⟨vs, rfl, h⟩ := h
    exact ⟨vs, rfl, RepVs.loose cs vs.toList 0 h⟩
  | _, .tup cs, x, h => by
    obtain ⟨vs, rfl, h⟩ := h
    exact ⟨vs, rfl, RepVs.loose cs vs.toList 0 h⟩
  | _, .bx .., x, h => h
  | _, .ifc t a, x, h => by
    obtain ⟨v, rfl, h⟩ := h
    exact ⟨v, rfl, Rep.loose a v h⟩
  | _, .fn f cs, x, h => by
    obtain ⟨vs, rfl, h⟩ := h
    exact ⟨vs, rfl, RepVs.loose cs vs.toList 0 h⟩
theorem RepVs.loose {C : Cx} : ∀ {md : Md} (cs : List AV) (vs : List Value) (q : Nat), RepVs C true md q cs vs → RepVs C false md q cs vs
  | _, [], vs, _, h => h
  | _, c :: cs, vs, q, h => by
    obtain ⟨y, ys, rfl, h1, h2⟩ := h
    exact ⟨y, ys, rfl, Rep.loose c y h1, RepVs.loose cs ys (q + 1) h2⟩
end
end Go.Ev
set_option linter.unusedVariables false
set_option linter.unusedSimpArgs false
namespace Go.Ev
open Go Go.RowKit
def tySz (P : Program) (t : TypeId) : Option (Nat × Bool) :=
  match P.info? t, P.underlying t with
  | some i, some d => some (i.size, match d with | .struct _ | .array _ _ => true | _ => false)
  | _, _ => none
def elTy (P : Program) (T : TypeId) : Option (Nat × Nat × Nat) :=
  match P.underlying T with
  | some (.slice e) => (P.info? e).map fun i => (e, i.size, i.bytes)
  | _ => none
def mapTy (P : Program) (T : TypeId) : Option (TypeDesc × Nat) :=
  match P.underlying T with
  | some (.map k e) => (P.underlying k).map fun d => (d, e)
  | _ => none
def fldTy (P : Program) (S : TypeId) (j : Nat) : Option (Nat × Nat × Bool) :=
  match P.underlying S with
  | some (.struct fs) =>
    match fs[j]? with
    | some f => (tySz P f.type).map fun x => (f.offset, x.1, x.2)
    | none => none
  | _ => none
def zeroFld (P : Program) (S : TypeId) (j : Nat) : Option Unit :=
  match P.underlying S with
  | some (.struct fs) =>
    match fs[j]? with
    | some f => if f.offset = 0 ∧ f.byteOffset = 0 ∧ tySz P f.type = some (0, true) ∧ P.cellsOf S = 0 then some () else none
    | none => none
  | _ => none
def ctyN (P : Program) : Nat → TypeId → List (Option (Nat × Nat))
  | 0, _ => []
  | n + 1, t =>
    match P.underlying t with
    | some (.struct fs) => fs.toList.flatMap fun f => ctyN P n f.type
    | some (.slice e) => [(P.info? e).map fun i => (e, i.size)]
    | _ => [none]
def cty (P : Program) (t : TypeId) : List (Option (Nat × Nat)) := ctyN P 6 t
def oneB : Value → Bool
  | .agg _ => false
  | .tuple _ => false
  | _ => true
def zeroC (P : Program) (t : TypeId) : Option (List AV) :=
  match P.info? t with
  | some i => match i.zero with
    | some z => if z.cells.all oneB && z.cells.size == i.size then some (z.cells.toList.map .v) else none
    | none => none
  | none => none
def zeroV (P : Program) (t : TypeId) : Option Value :=
  match P.info? t with
  | some i => match i.zero with
    | some z => if oneB z then some z else none
    | none => none
  | none => none
inductive Ix where
  | sl (t : Nat × Nat × Nat)
  | ar (n sz : Nat)
def ixTy (P : Program) (T : TypeId) : Option Ix :=
  match P.underlying T with
  | some (.slice e) => (P.info? e).map fun i => .sl (e, i.size, i.bytes)
  | some (.array n e) => (P.info? e).map fun i => .ar n i.size
  | _ => none
inductive Bld where
  | st (l : List (Nat × Nat))
  | ar (sz : Nat)
def Bld.at : Bld → Nat → Option (Nat × Nat)
  | .st l, i => l[i]?
  | .ar sz, i => some (i * sz, sz)
def bldTy (P : Program) (T : TypeId) : Option Bld :=
  match P.underlying T with
  | some (.struct fs) => (fs.toList.mapM fun f => (P.info? f.type).map fun i => (f.offset, i.size)).map .st
  | some (.array _ e) => (P.info? e).map fun i => .ar i.size
  | _ => none
def strTy (P : Program) (T : TypeId) : Option Unit :=
  match P.underlying T with
  | some .string => some ()
  | _ => none
inductive Cv where
  | int (k : IntKind)
  | bytes
  | str
  | same
  | ofs (e : Nat)
def cvTy (P : Program) (src dst : TypeId) : Option Cv :=
  match P.underlying src, P.underlying dst with
  | some _, some (.int k) => some (.int k)
  | some (.slice e), some .string => match P.underlying e with | some (.int .u8) => some .bytes | _ => none
  | some .string, some .string => some .str
  | some (.slice e), some (.slice _) => match P.underlying e with | some (.int .u8) => if src == dst then some .same else none | _ => none
  | some .string, some (.slice e) => match P.underlying e with | some (.int .u8) => if src == 9 then some (.ofs e) else none | _ => none
  | _, _ => none
def cmp (p q : Id) : Bool := p.isPrefixOf q || q.isPrefixOf p
def hit (I : List Id) (id : Id) : Bool := I.any fun p => cmp p id
def indep : List Id → Bool
  | [] => true
  | i :: is => !hit is i && indep is
def onSome {α : Type} (o : Option α) (k : α → Prop) : Prop := match o with | some a => k a | none => False
def getO {α : Type} (o : Option α) (d : α) : α := match o with | some a => a | none => d
def bindO {α β : Type} (o : Option α) (k : α → Option β) : Option β := match o with | some a => k a | none => none
def ifB (t : Bool) (a b : Prop) : Prop := (t = true → a) ∧ (t = false → b)
theorem ifB_true (a b : Prop) : ifB true a b = a := by simp [ifB]
theorem ifB_false (a b : Prop) : ifB false a b = b := by simp [ifB]
theorem ifB.of {p : Prop} [Decidable p] {a b : Prop} (h : p → a) (h' : ¬ p → b) : ifB (decide p) a b := ⟨fun x => h (of_decide_eq_true x), fun x => h' (of_decide_eq_false x)⟩
theorem ifB_not (t : Bool) (a b : Prop) : ifB (!t) a b = ifB t b a := by cases t <;> simp [ifB]
def sel {α : Type} (t : Bool) (a b : α) : α := match t with | true => a | false => b
theorem sel_true {α : Type} (a b : α) : sel true a b = a := rfl
theorem sel_false {α : Type} (a b : α) : sel false a b = b := rfl
inductive Fix.{u} {α : Sort u} (x : α) : Type where
  | mk
def onSome' {α : Type} (o : Option α) (k : α → Prop) (_ : Fix k) : Prop := onSome o k
theorem onSome_lz {α : Type} (o : Option α) (k : α → Prop) : onSome o k = onSome' o k .mk := rfl
theorem onSome'_some {α : Type} (a : α) (k : α → Prop) (h : Fix k) : onSome' (some a) k h = k a := rfl
def bindO' {α β : Type} (o : Option α) (k : α → Option β) (_ : Fix k) : Option β := bindO o k
theorem bindO_lz {α β : Type} (o : Option α) (k : α → Option β) : bindO o k = bindO' o k .mk := rfl
theorem bindO'_some {α β : Type} (a : α) (k : α → Option β) (h : Fix k) : bindO' (some a) k h = k a := rfl
theorem bindO'_none {α β : Type} (k : α → Option β) (h : Fix k) : bindO' none k h = none := rfl
def ifB' (t : Bool) (a b : Prop) (_ : Fix a) (_ : Fix b) : Prop := ifB t a b
theorem ifB_lz (t : Bool) (a b : Prop) : ifB t a b = ifB' t a b .mk .mk := rfl
theorem ifB'_true (a b : Prop) (h : Fix a) (h' : Fix b) : ifB' true a b h h' = a := ifB_true a b
theorem ifB'_false (a b : Prop) (h : Fix a) (h' : Fix b) : ifB' false a b h h' = b := ifB_false a b
theorem ifB'_not (t : Bool) (a b : Prop) (h : Fix a) (h' : Fix b) : ifB' (!t) a b h h' = ifB' t b a h' h := ifB_not t a b
theorem ifB'_eqt (t : Bool) (a b : Prop) (h : Fix a) (h' : Fix b) : ifB' (t == true) a b h h' = ifB' t a b h h' := by cases t <;> rfl
theorem ifB'_eqf (t : Bool) (a b : Prop) (h : Fix a) (h' : Fix b) : ifB' (t == false) a b h h' = ifB' t b a h' h := by cases t <;> simp [ifB', ifB]
theorem ifB'.of {p : Prop} [Decidable p] {a b : Prop} {h1 : Fix a} {h2 : Fix b} (h : p → a) (h' : ¬ p → b) : ifB' (decide p) a b h1 h2 := ifB.of h h'
def selL (t : Bool) (a b : Prop) (_ : Fix a) (_ : Fix b) : Prop := sel t a b
theorem selL_true (a b : Prop) (h : Fix a) (h' : Fix b) : selL true a b h h' = a := rfl
theorem selL_false (a b : Prop) (h : Fix a) (h' : Fix b) : selL false a b h h' = b := rfl
inductive OB where
  | row (e sz : Nat) (els : List (List AV))
  | box (t : Nat) (cs : List AV)
  | pin (c : AV) (x : Value)
  | mp (k : TypeDesc) (e : Nat) (l : List (Value × Value))
def kEq : Value → Value → Bool
  | .int _ a, .int _ b => a == b
  | .string a, .string b => a == b
  | .bool a, .bool b => a == b
  | _, _ => false
def mget : List (Value × Value) → Value → Option Value
  | [], _ => none
  | p :: l, k => sel (kEq p.1 k) (some p.2) (mget l k)
def mput : List (Value × Value) → Value → Value → List (Value × Value)
  | [], k, v => [(k, v)]
  | p :: l, k, v => sel (kEq p.1 k) ((k, v) :: l) (p :: mput l k v)
def relOf (id : Id) : Option (List AV) → Option (List AV) → Option (Nat × Nat × List (List AV))
  | some [.ref i], some [.row e z xs] => sel (i == id) (some (e, z, xs)) none
  | _, _ => none
theorem relOf_some {id : Id} {c c' : Option (List AV)} {r : Nat × Nat × List (List AV)} (h : relOf id c c' = some r) : c = some [.ref id] ∧ c' = some [.row r.1 r.2.1 r.2.2] := by
  unfold relOf at h
  split at h
  · rename_i i e z xs
    cases hi : (i == id) <;> rw [hi] at h
    · cases h
    · have h := Option.some.inj h
      subst h
      have : i = id := by simpa using hi
      subst this
      exact ⟨rfl, rfl⟩
  · cases h
def mapAns (c : Bool) (z : Value) (l : List (Value × Value)) (u : Value) : AV := match c with | true => .tup [.v ((mget l u).getD z), .v (.bool (mget l u).isSome)] | false => .v ((mget l u).getD z)
def onMp (o : Option OB) (k : TypeDesc → Nat → List (Value × Value) → Prop) : Prop := match o with | some (.mp d e l) => k d e l | _ => False
theorem onMp.elim {o : Option OB} {k : TypeDesc → Nat → List (Value × Value) → Prop} (h : onMp o k) : ∃ d e l, o = some (.mp d e l) ∧ k d e l := by
  unfold onMp at h
  split at h
  · exact ⟨_, _, _, rfl, h⟩
  · exact h.elim
def onRL (o : Option OB) (kr : List (List AV) → Prop) (km : List (Value × Value) → Prop) : Prop := match o with | some (.row _ _ els) => kr els | some (.mp _ _ l) => km l | _ => False
def onRL' (o : Option OB) (kr : List (List AV) → Prop) (km : List (Value × Value) → Prop) (_ : Fix kr) (_ : Fix km) : Prop := onRL o kr km
theorem onRL_lz (o : Option OB) (kr : List (List AV) → Prop) (km : List (Value × Value) → Prop) : onRL o kr km = onRL' o kr km .mk .mk := rfl
theorem onRL'_row (e sz : Nat) (els : List (List AV)) (kr : List (List AV) → Prop) (km : List (Value × Value) → Prop) (h : Fix kr) (h' : Fix km) : onRL' (some (.row e sz els)) kr km h h' = kr els := rfl
theorem onRL.elim {o : Option OB} {kr : List (List AV) → Prop} {km : List (Value × Value) → Prop} (h : onRL o kr km) : (∃ e sz els, o = some (.row e sz els) ∧ kr els) ∨ ∃ d e l, o = some (.mp d e l) ∧ km l := by
  unfold onRL at h
  split at h
  · exact .inl ⟨_, _, _, rfl, h⟩
  · exact .inr ⟨_, _, _, rfl, h⟩
  · exact h.elim
def onZ (a : AV) (kz : Int → Prop) (k : AV → Prop) : Prop := match a with | .v (.int _ n) => kz n | a => k a
def onZ' (a : AV) (kz : Int → Prop) (k : AV → Prop) (_ : Fix kz) (_ : Fix k) : Prop := onZ a kz k
theorem onZ_lz (a : AV) (kz : Int → Prop) (k : AV → Prop) : onZ a kz k = onZ' a kz k .mk .mk := rfl
section
variable (kz : Int → Prop) (k : AV → Prop) (h : Fix kz) (h' : Fix k)
theorem onZ'_int (q : IntKind) (n : Int) : onZ' (.v (.int q n)) kz k h h' = kz n := rfl
theorem onZ'_ref (id : Id) : onZ' (.ref id) kz k h h' = k (.ref id) := rfl
theorem onZ'_rd (o : Org) (e sz : Nat) (els : List (List AV)) : onZ' (.rd o e sz els) kz k h h' = k (.rd o e sz els) := rfl
end
theorem onZ.elim {a : AV} {kz : Int → Prop} {k : AV → Prop} (h : onZ a kz k) : (∃ q n, a = .v (.int q n) ∧ kz n) ∨ k a := by
  unfold onZ at h
  split at h
  · exact .inl ⟨_, _, rfl, h⟩
  · exact .inr h
def onNil (a : AV) (k : Prop) : Prop := match a with | .v (.slice none 0 0) => k | _ => False
def onNil' (a : AV) (k : Prop) (_ : Fix k) : Prop := onNil a k
theorem onNil_lz (a : AV) (k : Prop) : onNil a k = onNil' a k .mk := rfl
theorem onNil'_nil (k : Prop) (h : Fix k) : onNil' (.v (.slice none 0 0)) k h = k := rfl
theorem onNil.elim {a : AV} {k : Prop} (h : onNil a k) : a = .v (.slice none 0 0) ∧ k := by
  unfold onNil at h
  split at h
  · exact ⟨rfl, h⟩
  · exact h.elim
def slR (a x : AV) : AV := match a with | .v _ => .v (.slice none 0 0) | _ => x
theorem slR_v (u : Value) (x : AV) : slR (.v u) x = .v (.slice none 0 0) := rfl
theorem slR_rd (o : Org) (e sz : Nat) (els : List (List AV)) (x : AV) : slR (.rd o e sz els) x = x := rfl
def intTy (P : Program) (t : TypeId) : Option Unit := match P.underlying t with | some (.int _) => some () | _ => none
def onV (a : AV) (k : Value → Prop) : Prop := match a with | .v u => k u | _ => False
theorem onV.elim {a : AV} {k : Value → Prop} (h : onV a k) : ∃ u, a = .v u ∧ k u := by
  unfold onV at h
  split at h
  · exact ⟨_, rfl, h⟩
  · exact h.elim
structure St where
  env : Nat → AV
  σ : Id → Option OB
def killO (J : List Id) : Org → Bool
  | .obj id => hit J id
  | .at id _ _ _ => hit J id
  | _ => false
mutual
def AV.kill (I J : List Id) : AV → AV
  | .any => .any
  | .v u => .v u
  | .row e sz els => .row e sz els
  | .rd o e sz els => sel (killO J o) .any (.rd o e sz els)
  | .rp o e sz els i k => sel (killO J o) .any (.rp o e sz els i k)
  | .ref id => sel (hit I id) .any (.ref id)
  | .ptr id sz i k => sel (hit I id) .any (.ptr id sz i k)
  | .agg cs => .agg (killL I J cs)
  | .tup cs => .tup (killL I J cs)
  | .bx t cs => .bx t cs
  | .ifc t a => .ifc t (a.kill I J)
  | .fn f cs => .fn f (killL I J cs)
def killL (I J : List Id) : List AV → List AV
  | [] => []
  | c :: cs => c.kill I J :: killL I J cs
end
def OB.kill (I J : List Id) : OB → OB
  | .row e sz els => .row e sz els
  | .box t cs => .box t (killL I J cs)
  | .pin c x => .pin (c.kill I J) x
  | .mp k e l => .mp k e l
def upd (f : Nat → AV) (d : Nat) (x : AV) : Nat → AV := fun k => sel (k == d) x (f k)
def killE (f : Nat → AV) (I J : List Id) : Nat → AV := fun k => (f k).kill I J
def updS (f : Id → Option OB) (id : Id) (ob : OB) : Id → Option OB := fun x => sel (x == id) (some ob) (f x)
def mapOB (I J : List Id) (o : Option OB) : Option OB := match o with | some ob => some (ob.kill I J) | none => none
def killS (f : Id → Option OB) (I J : List Id) : Id → Option OB := fun x => sel (hit J x) none (mapOB I J (f x))
theorem upd_get (f : Nat → AV) (d : Nat) (x : AV) (k : Nat) : upd f d x k = sel (k == d) x (f k) := rfl
theorem killE_get (f : Nat → AV) (I J : List Id) (k : Nat) : killE f I J k = (f k).kill I J := rfl
theorem updS_get (f : Id → Option OB) (id : Id) (ob : OB) (x : Id) : updS f id ob x = sel (x == id) (some ob) (f x) := rfl
theorem killS_get (f : Id → Option OB) (I J : List Id) (x : Id) : killS f I J x = sel (hit J x) none (mapOB I J (f x)) := rfl
theorem mapOB_some (I J : List Id) (ob : OB) : mapOB I J (some ob) = some (ob.kill I J) := rfl
theorem mapOB_none (I J : List Id) : mapOB I J none = none := rfl
def St.chg (s : St) (I J : List Id) : St := ⟨killE s.env I J, killS s.σ I J⟩
def St.obj (s : St) (id : Id) (ob : OB) : St := ⟨s.env, updS s.σ id ob⟩
def St.put (s : St) (d : Option Nat) (a : AV) : St :=
  match d with
  | some d => ⟨upd s.env d a, s.σ⟩
  | none => s
def St.new (s : St) (d : Nat) (ob : OB) (a : AV) : St := ((s.chg [[d]] [[d]]).obj [d] ob).put (some d) a
def constAV : Value → AV
  | .agg cs => if cs.all oneB then .agg (cs.toList.map .v) else .any
  | .tuple _ => .any
  | u => .v u
def St.ev (s : St) : Operand → AV
  | .tmp t => s.env t
  | .const v => constAV v
  | .global _ => .any
  | .func f => .v (.func (.func f) #[] #[])
def rowOf (sz : Nat) (r : Org) : Option OB → Option (Org × List (List AV))
  | some (.row _ sz' els) => sel (sz' == sz) (some (r, els)) none
  | _ => none
def nilV : Value → Option (Org × List (List AV))
  | .slice none 0 0 => some (.ent, [])
  | _ => none
def St.sl (s : St) (sz : Nat) : AV → Option (Org × List (List AV))
  | .rd o _ sz' els => sel (sz' == sz) (some (o, els)) none
  | .ref id => rowOf sz (.obj id) (s.σ id)
  | .v u => nilV u
  | _ => none
def Org.base : Org → Org
  | .at id _ _ _ => .obj id
  | .ent => .ent
  | .frz => .frz
  | .obj id => .obj id
mutual
def AV.asrd (o : Org) : AV → AV
  | .row e sz els => .rd o.base e sz els
  | .bx t cs => .rp o t cs.length [cs] 0 0
  | .ifc t a => .ifc t (a.asrd o)
  | .fn f cs => .fn f (asrdL o cs)
  | .agg cs => .agg (asrdL o cs)
  | .tup cs => .tup (asrdL o cs)
  | .any => .any
  | .v u => .v u
  | .rd o e sz els => .rd o e sz els
  | .rp o e sz els i k => .rp o e sz els i k
  | .ref id => .ref id
  | .ptr id sz i k => .ptr id sz i k
def asrdL (o : Org) : List AV → List AV
  | [] => []
  | c :: cs => c.asrd o :: asrdL o cs
end
mutual
/-- The same, for a cell that goes into a row. -/
def AV.asrw (o : Org) : AV → AV
  | .row e sz els => .rd o.base e sz els
  | .bx _ _ => .any
  | .ifc t a => .ifc t (a.asrw o)
  | .fn f cs => .fn f (asrwL o cs)
  | .agg cs => .agg (asrwL o cs)
  | .tup cs => .tup (asrwL o cs)
  | .any => .any
  | .v u => .v u
  | .rd o e sz els => .rd o e sz els
  | .rp o e sz els i k => .rp o e sz els i k
  | .ref id => .ref id
  | .ptr id sz i k => .ptr id sz i k
def asrwL (o : Org) : List AV → List AV
  | [] => []
  | c :: cs => c.asrw o :: asrwL o cs
end
def AV.asat (id : Id) (sz0 i k : Nat) : AV → AV
  | .row e sz els => .rd (.at id sz0 i k) e sz els
  | x => x.asrd (.obj id)
def AV.cells : AV → List AV
  | .agg cs => cs
  | x => [x]
def nilC : Option (Nat × Nat) → AV → AV
  | some (e, sz), .v (.slice none 0 0) => .row e sz []
  | _, a => a
def nilL : List (Option (Nat × Nat)) → List AV → List AV
  | c :: cs, a :: as => nilC c a :: nilL cs as
  | _, as => as
def nilA (cs : List (Option (Nat × Nat))) : AV → AV
  | .agg as => .agg (nilL cs as)
  | .any => .any
  | .tup as => .tup as
  | a => nilC (cs.headD none) a
def okBox : AV → Bool
  | .v u => oneB u
  | .rd .. | .rp .. | .ref _ | .ptr .. | .ifc .. | .fn .. => true
  | _ => false
mutual
/-- Nothing of the call's own is in it. -/
def AV.clB : AV → Bool
  | .v u => oneB u
  | .rd o _ _ _ => !isObj o
  | .agg cs => clBL cs
  | .ifc _ a => a.clB
  | .fn _ cs => clBL cs
  | _ => false
def clBL : List AV → Bool
  | [] => true
  | c :: cs => c.clB && clBL cs
end
def ownRow (id : Id) : Option OB → Option (AV × List Id)
  | some (.row e sz els) => some (.row e sz els, [id])
  | _ => none
def St.clC (s : St) : AV → Option (AV × List Id)
  | .v u => sel (oneB u) (some (.v u, [])) none
  | .rd o e sz els => sel (isObj o) none (some (.rd o e sz els, []))
  | .ref id => ownRow id (s.σ id)
  | .ifc t a => sel a.clB (some (.ifc t a, [])) none
  | .fn f cs => sel (clBL cs) (some (.fn f cs, [])) none
  | _ => none
def St.clL (s : St) : List AV → Option (List AV × List Id)
  | [] => some ([], [])
  | c :: cs => bindO (s.clC c) fun x => bindO (s.clL cs) fun y => some (x.1 :: y.1, x.2 ++ y.2)
def cut (agg : Bool) (n k : Nat) (cs : List AV) (f : AV → AV) : Option AV :=
  sel agg (sel (Nat.ble (k + n) cs.length) (some (.agg (((cs.drop k).take n).map f))) none) ((cs[k]?).map f)
def setAt : List AV → Nat → List AV → List AV
  | [], _, cs => cs
  | v :: vs, k, cs => setAt vs (k + 1) (cs.set k v)
def ask (p q : Prop) : Prop := p ∧ q
theorem ask_true (q : Prop) : ask True q = q := by simp [ask]
theorem ask.of {p q : Prop} (h : p) (h' : q) : ask p q := ⟨h, h'⟩
def intE (op : BinOp) (k : IntKind) (x : Int) (k' : IntKind) (y : Int) (K : Value → Prop) : Prop :=
  match op with
  | .add => k = k' ∧ K (.int k (k.wrap (x + y)))
  | .sub => k = k' ∧ K (.int k (k.wrap (x - y)))
  | .mul => k = k' ∧ K (.int k (k.wrap (x * y)))
  | .quo => k = k' ∧ ask (y ≠ 0) (K (.int k (k.wrap (x.tdiv y))))
  | .rem => k = k' ∧ ask (y ≠ 0) (K (.int k (x.tmod y)))
  | .and => k = k' ∧ K (.int k (k.wrap (BitVec.ofInt k.bits x &&& BitVec.ofInt k.bits y).toNat))
  | .or => k = k' ∧ K (.int k (k.wrap (BitVec.ofInt k.bits x ||| BitVec.ofInt k.bits y).toNat))
  | .xor => k = k' ∧ K (.int k (k.wrap (BitVec.ofInt k.bits x ^^^ BitVec.ofInt k.bits y).toNat))
  | .andNot => k = k' ∧ K (.int k (k.wrap (BitVec.ofInt k.bits x &&& ~~~ BitVec.ofInt k.bits y).toNat))
  | .shl => ask (0 ≤ y) <| K (.int k (k.wrap (x * 2 ^ (min y.toNat k.bits))))
  | .shr => ask (0 ≤ y) <| K (.int k (x.fdiv (2 ^ (min y.toNat k.bits))))
  | .eql => k = k' ∧ K (.bool (decide (x = y)))
  | .neq => k = k' ∧ K (.bool (!decide (x = y)))
  | .lss => k = k' ∧ K (.bool (decide (x < y)))
  | .leq => k = k' ∧ K (.bool (decide (x ≤ y)))
  | .gtr => k = k' ∧ K (.bool (decide (y < x)))
  | .geq => k = k' ∧ K (.bool (decide (y ≤ x)))
def strE (op : BinOp) (a b : ByteArray) (K : Value → Prop) : Prop :=
  match op with
  | .eql => K (.bool (decide (a = b)))
  | .neq => K (.bool (!decide (a = b)))
  | _ => False
def binE (op : BinOp) (a b : AV) (K : Value → Prop) : Prop :=
  match a, b with
  | .v (.int k x), .v (.int k' y) => intE op k x k' y K
  | .v (.string a), .v (.string b) => strE op a b K
  | _, _ => False
def unE (op : UnOp) (a : AV) (K : Value → Prop) : Prop :=
  match op, a with
  | .not, .v (.bool b) => K (.bool !b)
  | .neg, .v (.int k x) => K (.int k (k.wrap (0 - x)))
  | .xor, .v (.int k x) => K (.int k (k.wrap (BitVec.ofInt k.bits (if k.signed then -1 else k.max) ^^^ BitVec.ofInt k.bits x).toNat))
  | _, _ => False
def onBool (a : AV) (k : Bool → Prop) : Prop := match a with | .v (.bool b) => k b | _ => False
def onGd (a : AV) (k : Bool → Prop) (k' : Prop) : Prop := match a with | .v (.bool b) => k b | .tup [] => k' | _ => False
def onGd' (a : AV) (k : Bool → Prop) (k' : Prop) (_ : Fix k) (_ : Fix k') : Prop := onGd a k k'
theorem onGd_lz (a : AV) (k : Bool → Prop) (k' : Prop) : onGd a k k' = onGd' a k k' .mk .mk := rfl
theorem onGd'_v (b : Bool) (k : Bool → Prop) (k' : Prop) (h : Fix k) (h' : Fix k') : onGd' (.v (.bool b)) k k' h h' = k b := rfl
theorem onGd'_no (k : Bool → Prop) (k' : Prop) (h : Fix k) (h' : Fix k') : onGd' (.tup []) k k' h h' = k' := rfl
def onInt (a : AV) (k : Int → Prop) : Prop := match a with | .v (.int _ n) => k n | _ => False
def onAdr (a : AV) (kr : Org → Nat → Nat → List (List AV) → Nat → Nat → Prop) (kp : Id → Nat → Nat → Nat → Prop) : Prop :=
  match a with
  | .rp o e sz els i k => kr o e sz els i k
  | .ptr id sz i k => kp id sz i k
  | _ => False
def onOB (o : Option OB) (kr : Nat → Nat → List (List AV) → Prop) (kb : Nat → List AV → Prop) : Prop :=
  match o with
  | some (.row e sz els) => kr e sz els
  | some (.box t cs) => kb t cs
  | _ => False
def onRef (a : AV) (kref : Id → Prop) (kstr : ByteArray → Prop) (k : AV → Prop) : Prop :=
  match a with
  | .ref id => kref id
  | .v (.string b) => kstr b
  | a => k a
def onFn (a : AV) (k : Nat → List AV → Prop) : Prop := match a with | .fn f cs => k f cs | .v (.func (.func f) ⟨[]⟩ ⟨[]⟩) => k f [] | _ => False
def onIfc (a : AV) (k : Nat → AV → Prop) : Prop := match a with | .ifc t x => k t x | _ => False
theorem onIfc.elim {a : AV} {k : Nat → AV → Prop} (h : onIfc a k) : ∃ t x, a = .ifc t x ∧ k t x := by
  unfold onIfc at h
  split at h
  · exact ⟨_, _, rfl, h⟩
  · exact h.elim
def methF (P : Program) (t : TypeId) (nm : String) : Option Nat :=
  match P.info? t, P.underlying t with
  | some i, some d => match i.methods.find? (fun m => m.name == nm), d with
    | some _, .pointer _ => none
    | some ⟨_, _, ⟨[]⟩, some (f, false)⟩, _ => some f
    | _, _ => none
  | _, _ => none
def onMth (a : AV) (km : String → Nat → Prop) (k : Prop) : Prop := match a with | .v (.func (.method nm) ⟨[.iface t _]⟩ ⟨[]⟩) => km nm t | _ => k
def onMth' (a : AV) (km : String → Nat → Prop) (k : Prop) (_ : Fix km) (_ : Fix k) : Prop := onMth a km k
theorem onMth_lz (a : AV) (km : String → Nat → Prop) (k : Prop) : onMth a km k = onMth' a km k .mk .mk := rfl
section
variable (km : String → Nat → Prop) (k : Prop) (h : Fix km) (h' : Fix k)
theorem onMth'_ptr (id : Id) (sz i j : Nat) : onMth' (.ptr id sz i j) km k h h' = k := rfl
end
theorem onMth.elim {a : AV} {km : String → Nat → Prop} {k : Prop} (h : onMth a km k) : (∃ nm t v, a = .v (.func (.method nm) #[.iface t v] #[]) ∧ km nm t) ∨ k := by
  unfold onMth at h
  split at h
  · exact .inl ⟨_, _, _, rfl, h⟩
  · exact .inr h
def ifcTy (P : Program) (t : TypeId) : Option Unit := match P.underlying t with | some (.interface _) => none | some _ => some () | none => none
def onTup (a : AV) (k : List AV → Prop) : Prop := match a with | .tup cs => k cs | _ => False
def onAgg (a : AV) (k : List AV → Prop) : Prop := match a with | .agg cs => k cs | _ => False
def withL {α : Type} (x : α) (k : α → Prop) : Prop := k x
def byteC (b : UInt8) : List AV := [.v (.int .u8 b.toNat)]
def bytesA (bs : List UInt8) : List (List AV) := bs.map byteC
def strEls (b : ByteArray) : List (List AV) := bytesA b.data.toList
theorem bytesA_inj {a b : List UInt8} (h : bytesA a = bytesA b) : a = b := by
  induction a generalizing b with
  | nil => cases b <;> simp_all [bytesA]
  | cons x xs ih =>
    cases b with
    | nil => simp [bytesA] at h
    | cons y ys =>
      simp only [bytesA, List.map_cons, List.cons.injEq] at h
      obtain ⟨h1, h2⟩ := h
      have : x = y := by simp only [byteC, List.cons.injEq, AV.v.injEq, Value.int.injEq, Int.natCast_inj] at h1; exact UInt8.toNat_inj.1 h1.1.2
      rw [this, ih h2]
def onBytes (els : List (List AV)) (k : List UInt8 → Prop) : Prop := ∃ bs, els = bytesA bs ∧ k bs
theorem onBytes_bytes (bs : List UInt8) (k : List UInt8 → Prop) : onBytes (bytesA bs) k = k bs :=
  propext ⟨fun ⟨_, h, hk⟩ => bytesA_inj h ▸ hk, fun hk => ⟨bs, rfl, hk⟩⟩
def binE' (op : BinOp) (a b : AV) (K : Value → Prop) (_ : Fix K) : Prop := binE op a b K
theorem binE_lz (op : BinOp) (a b : AV) (K : Value → Prop) : binE op a b K = binE' op a b K .mk := rfl
theorem binE'_int (op : BinOp) (k k' : IntKind) (x y : Int) (K : Value → Prop) (h : Fix K) : binE' op (.v (.int k x)) (.v (.int k' y)) K h = intE op k x k' y K := rfl
def unE' (op : UnOp) (a : AV) (K : Value → Prop) (_ : Fix K) : Prop := unE op a K
theorem unE_lz (op : UnOp) (a : AV) (K : Value → Prop) : unE op a K = unE' op a K .mk := rfl
theorem unE'_not (b : Bool) (K : Value → Prop) (h : Fix K) : unE' .not (.v (.bool b)) K h = K (.bool !b) := rfl
theorem unE'_xor (k : IntKind) (x : Int) (K : Value → Prop) (h : Fix K) : unE' .xor (.v (.int k x)) K h = K (.int k (k.wrap (BitVec.ofInt k.bits (if k.signed then -1 else k.max) ^^^ BitVec.ofInt k.bits x).toNat)) := rfl
def onBool' (a : AV) (k : Bool → Prop) (_ : Fix k) : Prop := onBool a k
theorem onBool_lz (a : AV) (k : Bool → Prop) : onBool a k = onBool' a k .mk := rfl
theorem onBool'_v (b : Bool) (k : Bool → Prop) (h : Fix k) : onBool' (.v (.bool b)) k h = k b := rfl
def onInt' (a : AV) (k : Int → Prop) (_ : Fix k) : Prop := onInt a k
theorem onInt_lz (a : AV) (k : Int → Prop) : onInt a k = onInt' a k .mk := rfl
theorem onInt'_v (q : IntKind) (n : Int) (k : Int → Prop) (h : Fix k) : onInt' (.v (.int q n)) k h = k n := rfl
def onAdr' (a : AV) (kr : Org → Nat → Nat → List (List AV) → Nat → Nat → Prop) (kp : Id → Nat → Nat → Nat → Prop) (_ : Fix kr) (_ : Fix kp) : Prop := onAdr a kr kp
theorem onAdr_lz (a : AV) (kr : Org → Nat → Nat → List (List AV) → Nat → Nat → Prop) (kp : Id → Nat → Nat → Nat → Prop) : onAdr a kr kp = onAdr' a kr kp .mk .mk := rfl
theorem onAdr'_rp (o : Org) (e sz : Nat) (els : List (List AV)) (i k : Nat) (kr : Org → Nat → Nat → List (List AV) → Nat → Nat → Prop) (kp : Id → Nat → Nat → Nat → Prop) (h : Fix kr) (h' : Fix kp) : onAdr' (.rp o e sz els i k) kr kp h h' = kr o e sz els i k := rfl
theorem onAdr'_ptr (id : Id) (sz i k : Nat) (kr : Org → Nat → Nat → List (List AV) → Nat → Nat → Prop) (kp : Id → Nat → Nat → Nat → Prop) (h : Fix kr) (h' : Fix kp) : onAdr' (.ptr id sz i k) kr kp h h' = kp id sz i k := rfl
def onOB' (o : Option OB) (kr : Nat → Nat → List (List AV) → Prop) (kb : Nat → List AV → Prop) (_ : Fix kr) (_ : Fix kb) : Prop := onOB o kr kb
theorem onOB_lz (o : Option OB) (kr : Nat → Nat → List (List AV) → Prop) (kb : Nat → List AV → Prop) : onOB o kr kb = onOB' o kr kb .mk .mk := rfl
theorem onOB'_row (e sz : Nat) (els : List (List AV)) (kr : Nat → Nat → List (List AV) → Prop) (kb : Nat → List AV → Prop) (h : Fix kr) (h' : Fix kb) : onOB' (some (.row e sz els)) kr kb h h' = kr e sz els := rfl
theorem onOB'_box (t : Nat) (cs : List AV) (kr : Nat → Nat → List (List AV) → Prop) (kb : Nat → List AV → Prop) (h : Fix kr) (h' : Fix kb) : onOB' (some (.box t cs)) kr kb h h' = kb t cs := rfl
def onRef' (a : AV) (kref : Id → Prop) (kstr : ByteArray → Prop) (k : AV → Prop) (_ : Fix kref) (_ : Fix kstr) (_ : Fix k) : Prop := onRef a kref kstr k
theorem onRef_lz (a : AV) (kref : Id → Prop) (kstr : ByteArray → Prop) (k : AV → Prop) : onRef a kref kstr k = onRef' a kref kstr k .mk .mk .mk := rfl
section
variable (kref : Id → Prop) (kstr : ByteArray → Prop) (k : AV → Prop) (h : Fix kref) (h' : Fix kstr) (h'' : Fix k)
theorem onRef'_ref (id : Id) : onRef' (.ref id) kref kstr k h h' h'' = kref id := rfl
theorem onRef'_rd (o : Org) (e sz : Nat) (els : List (List AV)) : onRef' (.rd o e sz els) kref kstr k h h' h'' = k (.rd o e sz els) := rfl
theorem onRef'_nil : onRef' (.v (.slice none 0 0)) kref kstr k h h' h'' = k (.v (.slice none 0 0)) := rfl
end
def onFn' (a : AV) (k : Nat → List AV → Prop) (_ : Fix k) : Prop := onFn a k
theorem onFn_lz (a : AV) (k : Nat → List AV → Prop) : onFn a k = onFn' a k .mk := rfl
theorem onFn'_fn (f : Nat) (cs : List AV) (k : Nat → List AV → Prop) (h : Fix k) : onFn' (.fn f cs) k h = k f cs := rfl
def onTup' (a : AV) (k : List AV → Prop) (_ : Fix k) : Prop := onTup a k
theorem onTup_lz (a : AV) (k : List AV → Prop) : onTup a k = onTup' a k .mk := rfl
theorem onTup'_tup (cs : List AV) (k : List AV → Prop) (h : Fix k) : onTup' (.tup cs) k h = k cs := rfl
def onBytes' (els : List (List AV)) (k : List UInt8 → Prop) (_ : Fix k) : Prop := onBytes els k
theorem onBytes_lz (els : List (List AV)) (k : List UInt8 → Prop) : onBytes els k = onBytes' els k .mk := rfl
theorem onBytes'_bytes (bs : List UInt8) (k : List UInt8 → Prop) (h : Fix k) : onBytes' (bytesA bs) k h = k bs := onBytes_bytes bs k
def boolTy (P : Program) (T : TypeId) : Option Unit :=
  match P.underlying T with
  | some .bool => some ()
  | _ => none
def boolE (op : BinOp) (a b : Bool) (K : Value → Prop) : Prop :=
  match op with
  | .eql => K (.bool (decide (a = b)))
  | .neq => K (.bool (!decide (a = b)))
  | _ => False
def nilE (els : List (List AV)) (A B : Prop) : Prop := (els = [] → A) ∧ B
def nilE' (els : List (List AV)) (A B : Prop) (_ : Fix A) (_ : Fix B) : Prop := nilE els A B
theorem nilE_lz (els : List (List AV)) (A B : Prop) : nilE els A B = nilE' els A B .mk .mk := rfl
theorem nilE'.of {els : List (List AV)} {A B : Prop} {h1 : Fix A} {h2 : Fix B} (h : els = [] → A) (h' : B) : nilE' els A B h1 h2 := ⟨h, h'⟩
def nilCmp (op : BinOp) (els : List (List AV)) (K : Value → Prop) : Prop :=
  match op with
  | .eql => nilE els (K (.bool true)) (K (.bool false))
  | .neq => nilE els (K (.bool false)) (K (.bool true))
  | _ => False
def nil0 (op : BinOp) (K : Value → Prop) : Prop :=
  match op with
  | .eql => K (.bool true)
  | .neq => K (.bool false)
  | _ => False
def binT (P : Program) (t : TypeId) (σ : Id → Option OB) (op : BinOp) (a b : AV) (K : Value → Prop) : Prop :=
  match a, b with
  | .v (.bool x), .v (.bool y) => onSome (boolTy P t) fun _ => boolE op x y K
  | .rd _ _ _ els, .v (.slice none 0 0) => onSome (elTy P t) fun _ => nilCmp op els K
  | .ref id, .v (.slice none 0 0) => onSome (elTy P t) fun _ => onOB (σ id) (fun _ _ els => nilCmp op els K) (fun _ _ => False)
  | .v (.slice none 0 0), .v (.slice none 0 0) => onSome (elTy P t) fun _ => nil0 op K
  | a, b => binE op a b K
def binT' (P : Program) (t : TypeId) (σ : Id → Option OB) (op : BinOp) (a b : AV) (K : Value → Prop) (_ : Fix K) : Prop := binT P t σ op a b K
section
variable (P : Program) (t : TypeId) (σ : Id → Option OB) (op : BinOp) (K : Value → Prop) (h : Fix K)
theorem binT_lz (a b : AV) : binT P t σ op a b K = binT' P t σ op a b K .mk := rfl
theorem binT'_rd (o : Org) (e sz : Nat) (els : List (List AV)) : binT' P t σ op (.rd o e sz els) (.v (.slice none 0 0)) K h = onSome (elTy P t) fun _ => nilCmp op els K := rfl
theorem binT'_int (k k' : IntKind) (x y : Int) : binT' P t σ op (.v (.int k x)) (.v (.int k' y)) K h = intE op k x k' y K := rfl
theorem binT'_str (a b : ByteArray) : binT' P t σ op (.v (.string a)) (.v (.string b)) K h = strE op a b K := rfl
end
def okCells (vc : List AV) (n : Nat) : Bool := vc.length == n && vc.all okBox
def fillE (s : St) (b : Bld) : List AV → List (Nat × Operand) → Option (List AV)
  | cs, [] => some cs
  | cs, x :: l => bindO (b.at x.1) fun pl => sel (okCells (s.ev x.2).cells pl.2 && Nat.ble (pl.1 + pl.2) cs.length) (fillE s b (setAt (s.ev x.2).cells pl.1 cs) l) none
def partsOf (s : St) : Nat → List (Nat × Operand) → Option (List (List AV))
  | _, [] => some []
  | i, x :: l => sel (x.1 == i) (bindO (partsOf s (i + 1) l) fun r => some ((s.ev x.2).cells :: r)) none
def St.clE (s : St) (n : Nat) (ty : List (Option (Nat × Nat))) : List (List AV) → Option (List (List AV) × List Id)
  | [] => some ([], [])
  | e :: es => sel (e.length == n) (bindO (s.clL e) fun x => bindO (s.clE n ty es) fun y => some (nilL ty x.1 :: y.1, x.2 ++ y.2)) none
def flatE (els : List (List AV)) : Prop := ∀ e ∈ els, ∀ c ∈ e, ∃ u, c = .v u
end Go.Ev
set_option linter.unusedVariables false
set_option linter.unusedSimpArgs false
namespace Go.Ev
open Go Go.RowKit
structure Meets (P : Program) (f : FuncId) (args : List AV) (post : AV → Prop) : Prop where
  enters : (match P.funcs[f]? with | some fn => fn.body.isSome && fn.name != "runtime.NumGoroutine" | none => false) = true
  runs : ∀ (w : World) (S F : Nat → Prop) (base : Id) (vals : Array Value), (∀ b, S b ∨ F b → b < w.heap.size) →
    RepVs ⟨w, S, F, fun _ => none, fun _ => undef, fun _ => False⟩ true (.read .ent) 0 args vals.toList →
    Calls P f vals w fun e w' => ∃ r v L, post r ∧ e = .returned v ∧
      Rep ⟨w', S, F, L, fun _ => undef, fun _ => False⟩ true (.own base) r v ∧
      (∀ b p, L b = some p → w.heap.size ≤ b ∧ b < w'.heap.size) ∧ Below w.heap.size w w'
structure Bs where
  w : World
  mu : Nat → Prop
  df : List Deferred := []
def Bs.ok (B : Bs) (b : Nat) : Prop := B.w.heap.size ≤ b ∨ B.mu b
structure Bs.bel (B : Bs) (w' : World) : Prop where
  os : w'.os = B.w.os
  tape : w'.tape = B.w.tape
  output : w'.output = B.w.output
  size : B.w.heap.size ≤ w'.heap.size
  block : ∀ k, ¬ B.ok k → w'.heap[k]? = B.w.heap[k]?
theorem Bs.bel.refl (B : Bs) : B.bel B.w := ⟨rfl, rfl, rfl, Nat.le_refl _, fun _ _ => rfl⟩
theorem Bs.bel.trans {B : Bs} {w w' : World} {mu : Nat → Prop} {df : List Deferred} (h : B.bel w) (k : Bs.bel ⟨w, mu, df⟩ w') (hm : ∀ b, mu b → B.ok b) : B.bel w' :=
  ⟨k.os.trans h.os, k.tape.trans h.tape, k.output.trans h.output, Nat.le_trans h.size k.size, fun i hi => (k.block i (fun ho => by
    rcases ho with ho | ho
    · exact hi (.inl (Nat.le_trans h.size ho))
    · exact hi (hm i ho))).trans (h.block i hi)⟩
theorem Bs.bel.of_below {w w' : World} (h : Below w.heap.size w w') (mu : Nat → Prop) (df : List Deferred := []) : Bs.bel ⟨w, mu, df⟩ w' :=
  ⟨h.os, h.tape, h.output, h.size, fun k hk => h.block k (Nat.lt_of_not_le fun e => hk (.inl e))⟩
theorem Bs.bel.below {w w' : World} {mu : Nat → Prop} {df : List Deferred} (h : Bs.bel ⟨w, mu, df⟩ w') (hm : ∀ b, ¬ mu b) : Below w.heap.size w w' :=
  ⟨h.os, h.tape, h.output, h.size, fun k hk => h.block k (fun e => by
    rcases e with e | e
    · exact absurd hk (Nat.not_lt_of_le e)
    · exact hm k e)⟩
theorem Bs.bel.drew {B : Bs} {w : World} (h : B.bel w) : B.bel { w with drawn := w.drawn + 1 } := ⟨h.os, h.tape, h.output, h.size, h.block⟩
theorem Bs.lt {B : Bs} {b : Nat} (h : ¬ B.ok b) : b < B.w.heap.size := Nat.lt_of_not_le fun e => h (.inl e)
inductive PA where
  | rd (a : AV)
  | mu (a : AV)
def RepPs (C : Cx) : Nat → List PA → List Value → Prop
  | _, [], vs => vs = []
  | q, .rd a :: ps, vs => ∃ y ys, vs = y :: ys ∧ Rep C true (.read .ent) a y ∧ RepPs C (q + 1) ps ys
  | q, .mu a :: ps, vs => ∃ y ys, vs = y :: ys ∧ Rep C true (.own [q]) a y ∧ RepPs C (q + 1) ps ys
structure MeetsM (P : Program) (f : FuncId) (args : List PA) (post : AV → List AV → Prop) : Prop where
  enters : (match P.funcs[f]? with | some fn => fn.body.isSome && fn.name != "runtime.NumGoroutine" | none => false) = true
  runs : ∀ (w : World) (S F : Nat → Prop) (L0 : Nat → Option Id) (base : Id) (vals : Array Value), (∀ b, S b ∨ F b → b < w.heap.size ∧ L0 b = none) → (∀ b p, L0 b = some p → b < w.heap.size) →
    RepPs ⟨w, S, F, L0, fun _ => undef, fun _ => False⟩ 0 args vals.toList →
    Calls P f vals w fun e w' => ∃ r as v L, post r as ∧ e = .returned v ∧
      Rep ⟨w', S, F, L, fun _ => undef, fun _ => False⟩ true (.own (base ++ [0])) r v ∧
      RepVs ⟨w', S, F, L, fun _ => undef, fun _ => False⟩ true (.own (base ++ [1])) 0 as vals.toList ∧
      (∀ b p, L b = some p → (w.heap.size ≤ b ∨ L0 b ≠ none) ∧ b < w'.heap.size) ∧ Bs.bel ⟨w, fun b => L0 b ≠ none, []⟩ w'
def coeRow : Option OB → Option AV
  | some (.row e sz els) => some (.row e sz els)
  | _ => none
def St.coe (s : St) : AV → Option AV
  | .any => some .any
  | .v u => some (.v u)
  | .rd _ e sz els => some (.row e sz els)
  | .ref id => coeRow (s.σ id)
  | _ => none
def St.coeL (s : St) : List AV → Option (List AV)
  | [] => some []
  | c :: cs => bindO (s.coe c) fun c' => bindO (s.coeL cs) fun cs' => some (c' :: cs')
def coeBox (s : St) : Option OB → Option AV
  | some (.box t cs) => bindO (s.coeL cs) fun cs' => some (.bx t cs')
  | _ => none
def St.coeK (s : St) : AV → Option AV
  | .rp _ t sz [cs] 0 0 => sel (sz == cs.length) (some (.bx t cs)) none
  | .ptr id _ 0 0 => coeBox s (s.σ id)
  | a => s.coe a
def St.coeKL (s : St) : List AV → Option (List AV)
  | [] => some []
  | c :: cs => bindO (s.coeK c) fun c' => bindO (s.coeKL cs) fun cs' => some (c' :: cs')
def St.coeA (s : St) : AV → Option AV
  | .agg cs => bindO (s.coeL cs) fun cs' => some (.agg cs')
  | .fn f cs => bindO (s.coeKL cs) fun cs' => some (.fn f cs')
  | a => s.coeK a
def lendC : AV → Option AV
  | .any => some .any
  | .v u => some (.v u)
  | .rd o e sz els => sel (isObj o) none (some (.rd o e sz els))
  | _ => none
def lendL : List AV → Option (List AV)
  | [] => some []
  | c :: cs => bindO (lendC c) fun c' => bindO (lendL cs) fun cs' => some (c' :: cs')
def lendA : AV → Option AV
  | .agg cs => bindO (lendL cs) fun cs' => some (.agg cs')
  | a => lendC a
def parTys (P : Program) (f : FuncId) : List TypeId := match P.funcs[f]? with | some fn => fn.params.toList | none => []
def argsE (P : Program) (s : St) (lend : Bool) : List TypeId → List AV → Option (List AV)
  | [], [] => some []
  | t :: ts, a :: as => bindO (sel lend (lendA a) (bindO (s.coeA a) fun x => some (nilA (cty P t) x))) fun a' => bindO (argsE P s lend ts as) fun as' => some (a' :: as')
  | _, _ => none
def opnC (id : Id) (q : Nat) : AV → AV × List (Id × OB)
  | .row e sz els => (.ref (id ++ [q]), [(id ++ [q], .row e sz els)])
  | .agg _ => (.any, [])
  | .tup _ => (.any, [])
  | .bx _ _ => (.any, [])
  | .ifc t a => (sel a.clB (.ifc t a) .any, [])
  | .fn f cs => (sel (clBL cs) (.fn f cs) .any, [])
  | a => (a, [])
def opnCs (id : Id) : Nat → List AV → List AV × List (Id × OB)
  | _, [] => ([], [])
  | q, a :: as => ((opnC id q a).1 :: (opnCs id (q + 1) as).1, (opnC id q a).2 ++ (opnCs id (q + 1) as).2)
def opnB (id : Id) (q : Nat) : AV → AV × List (Id × OB)
  | .agg cs => (.agg (opnCs (id ++ [q]) 0 cs).1, (opnCs (id ++ [q]) 0 cs).2)
  | .bx t cs => (.ptr (id ++ [q] ++ [0]) 0 0 0, (id ++ [q] ++ [0], .box t (opnCs (id ++ [q] ++ [1]) 0 cs).1) :: (opnCs (id ++ [q] ++ [1]) 0 cs).2)
  | a => opnC id q a
def opnL (id : Id) : Nat → List AV → List AV × List (Id × OB)
  | _, [] => ([], [])
  | q, a :: as => ((opnB id q a).1 :: (opnL id (q + 1) as).1, (opnB id q a).2 ++ (opnL id (q + 1) as).2)
def opnA (d : Nat) : AV → AV × List (Id × OB)
  | .row e sz els => (.ref [d], [([d], .row e sz els)])
  | .agg cs => (.agg (opnCs [d] 0 cs).1, (opnCs [d] 0 cs).2)
  | .tup cs => (.tup (opnL [d] 0 cs).1, (opnL [d] 0 cs).2)
  | .bx t cs => (.ptr [d, 0] 0 0 0, ([d, 0], .box t (opnCs [d, 1] 0 cs).1) :: (opnCs [d, 1] 0 cs).2)
  | a => opnC [] d a
def updL (σ : Id → Option OB) : List (Id × OB) → Id → Option OB
  | [] => σ
  | x :: xs => updL (updS σ x.1 x.2) xs
def St.ret (s : St) (d : Option Nat) (r : AV) : St :=
  match d with
  | some d => ⟨upd (killE s.env [[d]] [[d]]) d (opnA d r).1, updL (killS s.σ [[d]] [[d]]) (opnA d r).2⟩
  | none => s
def cellAt (xs : List (List AV)) (i k : Nat) : Option AV := (xs[i]?).bind (·[k]?)
def setCellAt (xs : List (List AV)) (i k : Nat) (c : AV) : List (List AV) := match xs[i]? with | some cs => xs.set i (cs.set k c) | none => xs
def rowCell (sz i k : Nat) : Option OB → Option AV
  | some (.row _ sz' xs) => sel (sz' == sz) (bindO (cellAt xs i k) fun c => match c with | .row e s els => some (.row e s els) | _ => none) none
  | _ => none
def boxTC : Option OB → Option (Nat × List AV)
  | some (.box t cs) => some (t, cs)
  | _ => none
def shapeOf : Option OB → Option AV
  | some (.row e sz els) => some (.row e sz els)
  | _ => none
def St.givC (s : St) : AV → Option AV
  | .ref id => shapeOf (s.σ id)
  | .rd (.at id sz i k) _ _ _ => rowCell sz i k (s.σ id)
  | a => bindO (s.clC a) fun x => some x.1
def St.givL (s : St) : List AV → Option (List AV)
  | [] => some []
  | c :: cs => bindO (bindO (s.clC c) fun x => some x.1) fun x => bindO (s.givL cs) fun y => some (x :: y)
def St.givA (s : St) (ts : List (Option (Nat × Nat))) : AV → Option AV
  | .agg cs => bindO (s.givL cs) fun x => some (.agg (nilL ts x))
  | .ptr id _ 0 0 => bindO (boxTC (s.σ id)) fun b => bindO (s.givL b.2) fun x => some (.bx b.1 (nilL ts x))
  | a => bindO (s.givC a) fun x => some (nilC (ts.headD none) x)
def rootC : AV → List Id
  | .ref id => [id]
  | .rd (.at id _ _ _) _ _ _ => [id]
  | _ => []
def rootL : List AV → List Id
  | [] => []
  | .ref id :: cs => id :: rootL cs
  | _ :: cs => rootL cs
def rootB : Option OB → List Id
  | some (.box _ cs) => rootL cs
  | _ => []
def St.rootA (s : St) : AV → List Id
  | .agg cs => rootL cs
  | .ptr id _ _ _ => id :: rootB (s.σ id)
  | a => rootC a
def St.roots (s : St) : List PA → List AV → List Id
  | .mu _ :: ps, a :: as => s.rootA a ++ s.roots ps as
  | .rd _ :: ps, _ :: as => s.roots ps as
  | _, _ => []
def ptrs : List PA → List AV → List Id
  | .mu _ :: ps, .ptr id _ _ _ :: as => id :: ptrs ps as
  | _ :: ps, _ :: as => ptrs ps as
  | _, _ => []
def chN (ps : List PA) (as : List AV) : List Id := (ptrs ps as).map (1000002 :: ·)
def rrootA : AV → List Id
  | .agg cs => rootL cs
  | .ptr id _ _ _ => [id]
  | a => rootC a
def rroots : List PA → List AV → List Id
  | .mu _ :: ps, a :: as => rrootA a ++ rroots ps as
  | .rd _ :: ps, _ :: as => rroots ps as
  | _, _ => []
def apartB (I : List Id) : List Id → Bool
  | [] => true
  | j :: J => !hit I j && apartB I J
def apC (J : List Id) : AV → Bool
  | .ref id => !hit J id
  | .rd o _ _ _ => !killO J o
  | _ => true
def apL (J : List Id) : List AV → Bool
  | [] => true
  | c :: cs => apC J c && apL J cs
def apBox (J : List Id) : Option OB → Bool
  | some (.box _ cs) => apL J cs
  | _ => false
def St.apK (s : St) (J : List Id) : AV → Bool
  | .ptr id _ _ _ => !hit J id && apBox J (s.σ id)
  | .rp o _ _ _ _ _ => !killO J o
  | a => apC J a
def St.apKL (s : St) (J : List Id) : List AV → Bool
  | [] => true
  | c :: cs => s.apK J c && s.apKL J cs
def St.apA (s : St) (J : List Id) : AV → Bool
  | .agg cs => apL J cs
  | .fn _ cs => s.apKL J cs
  | a => s.apK J a
def pargE (P : Program) (s : St) (lend : Bool) (J : List Id) : List PA → List TypeId → List AV → Option (List PA)
  | [], [], [] => some []
  | .rd _ :: ps, t :: ts, a :: as => bindO (sel (s.apA J a) (sel lend (lendA a) (bindO (s.coeA a) fun x => some (nilA (cty P t) x))) none) fun a' => bindO (pargE P s lend J ps ts as) fun as' => some (.rd a' :: as')
  | .mu _ :: ps, t :: ts, a :: as => bindO (s.givA (cty P t) a) fun a' => bindO (pargE P s lend J ps ts as) fun as' => some (.mu a' :: as')
  | _, _, _ => none
def backAt (id : Id) (i k : Nat) (r : AV) : Option OB → List (Id × OB)
  | some (.row E sz' xs) => [(id, .row E sz' (setCellAt xs i k r))]
  | _ => []
def bkC (s : St) : AV → AV → List (Id × OB)
  | .ref id, .row e sz els => [(id, .row e sz els)]
  | .rd (.at id _ i k) _ _ _, .row e sz els => backAt id i k (.row e sz els) (s.σ id)
  | _, _ => []
def bkL (s : St) : List AV → List AV → List (Id × OB)
  | .ref id :: cs, .row e sz els :: ds => (id, .row e sz els) :: bkL s cs ds
  | _ :: cs, _ :: ds => bkL s cs ds
  | _, _ => []
def bkA (s : St) : AV → AV → List (Id × OB)
  | .agg cs, .agg ds => bkL s cs ds
  | .ptr id _ _ _, .bx t ds => (id, .box t (opnCs (1000002 :: id) 0 ds).1) :: (opnCs (1000002 :: id) 0 ds).2
  | a, r => bkC s a r
def St.backs (s : St) : List PA → List AV → List AV → List (Id × OB)
  | .mu _ :: ps, a :: as, r :: rs => bkA s a r ++ s.backs ps as rs
  | .rd _ :: ps, _ :: as, _ :: rs => s.backs ps as rs
  | _, _, _ => []
def deadC : AV → AV → List Id
  | .ref _, .row .. => []
  | .rd (.at _ _ _ _) _ _ _, .row .. => []
  | a, _ => rootC a
def deadL : List AV → List AV → List Id
  | .ref _ :: cs, .row .. :: ds => deadL cs ds
  | .ref id :: cs, _ :: ds => id :: deadL cs ds
  | _ :: cs, _ :: ds => deadL cs ds
  | cs, [] => rootL cs
  | [], _ => []
def St.deadA (s : St) : AV → AV → List Id
  | .agg cs, .agg ds => deadL cs ds
  | .ptr id _ _ _, .bx _ _ => rootB (s.σ id)
  | .agg cs, _ => rootL cs
  | .ptr id _ _ _, _ => id :: rootB (s.σ id)
  | a, r => deadC a r
def St.dead (s : St) : List PA → List AV → List AV → List Id
  | .mu _ :: ps, a :: as, r :: rs => s.deadA a r ++ s.dead ps as rs
  | .mu _ :: ps, a :: as, [] => s.rootA a ++ s.dead ps as []
  | .rd _ :: ps, _ :: as, _ :: rs => s.dead ps as rs
  | .rd _ :: ps, _ :: as, [] => s.dead ps as []
  | _, _, _ => []
def St.retM (s : St) (ps : List PA) (as : List AV) (d : Option Nat) (r : AV) (rs : List AV) : St :=
  St.ret ⟨killE s.env (s.dead ps as rs ++ chN ps as) (s.roots ps as ++ chN ps as), updL (killS s.σ (s.dead ps as rs ++ chN ps as) (s.roots ps as ++ chN ps as)) (s.backs ps as rs)⟩ d r
def frzO (o : Org) : Org := sel (isObj o) .frz o
def frzR : Option OB → Option AV
  | some (.row e sz els) => some (.rd .frz e sz els)
  | _ => none
def St.frzC (s : St) : AV → Option AV
  | .any => some .any
  | .v u => some (.v u)
  | .rd o e sz els => some (.rd (frzO o) e sz els)
  | .ref id => frzR (s.σ id)
  | _ => none
def St.frzL (s : St) : List AV → Option (List AV)
  | [] => some []
  | c :: cs => bindO (s.frzC c) fun c' => bindO (s.frzL cs) fun cs' => some (c' :: cs')
def St.frzA (s : St) : AV → Option AV
  | .agg cs => bindO (s.frzL cs) fun cs' => some (.agg cs')
  | a => s.frzC a
def St.frzE (s : St) : List AV → Option (List AV)
  | [] => some []
  | a :: as => bindO (s.frzA a) fun a' => bindO (s.frzE as) fun as' => some (a' :: as')
def CallV (P : Program) (f : FuncId) (args cs : List AV) (s : St) (d : Option Nat) (K : St → Prop) : Prop :=
  ∃ cargs ccs post, Meets P f (cargs ++ ccs) post ∧ (∀ r, post r → r.pure) ∧ argsE P s false (parTys P f) args = some cargs ∧ s.coeKL cs = some ccs ∧ ∀ r, post r → K (s.ret d r)
theorem CallV.of {P : Program} {f : FuncId} {args cs : List AV} {s : St} {d : Option Nat} {K : St → Prop} {cargs ccs : List AV} {post : AV → Prop} (h : Meets P f (cargs ++ ccs) post) (hp : ∀ r, post r → r.pure)
    (ha : argsE P s false (parTys P f) args = some cargs) (hc : s.coeKL cs = some ccs) (hk : ∀ r, post r → K (s.ret d r)) : CallV P f args cs s d K := ⟨cargs, ccs, post, h, hp, ha, hc, hk⟩
def CallI (P : Program) (f : FuncId) (args : List AV) (s : St) (d : Option Nat) (K : St → Prop) : Prop :=
  ∃ cargs post, Meets P f cargs post ∧ (∀ r, post r → r.pure) ∧ argsE P s false (parTys P f) args = some cargs ∧ ∀ r, post r → K (s.ret d r)
def CallE (P : Program) (H : Nat → Nat) (f : FuncId) (args : List AV) (s : St) (d : Option Nat) (K : St → Prop) : Prop :=
  (∃ lend cargs post, Meets P f cargs post ∧ (lend = true ∨ ∀ r, post r → r.pure) ∧ argsE P s lend (parTys P f) args = some cargs ∧ ∀ r, post r → K (s.ret d r)) ∨
  (∃ cargs post, Meets P f cargs post ∧ (∀ r, post r → r.nf) ∧ s.frzE args = some cargs ∧ ∀ r, post r → K (s.ret d r)) ∨
  (H 1000000 = 0 ∧ ∃ lend cargs post, MeetsM P f cargs post ∧ (lend = true ∨ ∀ r rs, post r rs → r.pure ∧ pureCs rs) ∧ pargE P s lend (s.roots cargs args) cargs (parTys P f) args = some cargs ∧ (indep (s.roots cargs args) && apartB (rroots cargs args) (chN cargs args)) = true ∧ ∀ r rs, post r rs → K (s.retM cargs args d r rs))
theorem CallE.of {P : Program} {H : Nat → Nat} {f : FuncId} {args : List AV} {s : St} {d : Option Nat} {K : St → Prop} {cargs : List AV} {post : AV → Prop} (h : Meets P f cargs post) (hp : ∀ r, post r → r.pure)
    (ha : argsE P s false (parTys P f) args = some cargs) (hk : ∀ r, post r → K (s.ret d r)) : CallE P H f args s d K := .inl ⟨false, cargs, post, h, .inr hp, ha, hk⟩
theorem CallE.lend {P : Program} {H : Nat → Nat} {f : FuncId} {args : List AV} {s : St} {d : Option Nat} {K : St → Prop} {cargs : List AV} {post : AV → Prop} (h : Meets P f cargs post)
    (ha : argsE P s true (parTys P f) args = some cargs) (hk : ∀ r, post r → K (s.ret d r)) : CallE P H f args s d K := .inl ⟨true, cargs, post, h, .inl rfl, ha, hk⟩
theorem CallE.mut {P : Program} {H : Nat → Nat} {f : FuncId} {args : List AV} {s : St} {d : Option Nat} {K : St → Prop} {cargs : List PA} {post : AV → List AV → Prop} (h : MeetsM P f cargs post) (hH : H 1000000 = 0) (hp : ∀ r rs, post r rs → r.pure ∧ pureCs rs)
    (ha : pargE P s false (s.roots cargs args) cargs (parTys P f) args = some cargs) (hi : (indep (s.roots cargs args) && apartB (rroots cargs args) (chN cargs args)) = true) (hk : ∀ r rs, post r rs → K (s.retM cargs args d r rs)) : CallE P H f args s d K := .inr <| .inr ⟨hH, false, cargs, post, h, .inr hp, ha, hi, hk⟩
theorem CallE.mutLend {P : Program} {H : Nat → Nat} {f : FuncId} {args : List AV} {s : St} {d : Option Nat} {K : St → Prop} {cargs : List PA} {post : AV → List AV → Prop} (h : MeetsM P f cargs post) (hH : H 1000000 = 0)
    (ha : pargE P s true (s.roots cargs args) cargs (parTys P f) args = some cargs) (hi : (indep (s.roots cargs args) && apartB (rroots cargs args) (chN cargs args)) = true) (hk : ∀ r rs, post r rs → K (s.retM cargs args d r rs)) : CallE P H f args s d K := .inr <| .inr ⟨hH, true, cargs, post, h, .inl rfl, ha, hi, hk⟩
structure SOp where
  dst : Option Nat
  op : Op
  g : Option (Option Nat × Bool)
def dstO : Option Oper → Option Nat
  | some o => o.dst
  | none => none
theorem dstO_bind (o : Option Oper) : dstO o = o.bind (·.dst) := by cases o <;> rfl
def gOf (all : Array Oper) : Option (Nat × Bool) → Option (Option Nat × Bool)
  | none => none
  | some (j, w) => some (dstO (all[j]?), w)
def strip (all : Array Oper) (o : Oper) : SOp := ⟨o.dst, o.op, gOf all o.guard⟩
def stripL (all : Array Oper) : List Oper → List SOp
  | [] => []
  | o :: l => strip all o :: stripL all l
def appBase (s : St) (d e sz : Nat) : AV → Option (Id × List (List AV))
  | .ref id => match s.σ id with
    | some (.row e' sz' xs) => sel (e' == e && sz' == sz) (some (id, xs)) none
    | _ => none
  | .v u => bindO (nilV u) fun _ => some ([d], [])
  | _ => none
def callOp (P : Program) (H : Nat → Nat) (dst : Option Nat) (c : Call) (s : St) (K : St → Prop) : Prop :=
  match c.callee, c.args, c.argTypes with
  | .value (.func f), as, _ => CallE P H f (as.toList.map s.ev) s dst K
  | .value x, as, _ => onFn (s.ev x) fun f cs => CallV P f (as.toList.map s.ev) cs s dst K
  | .builtin .len, ⟨[x]⟩, ⟨[T]⟩ =>
    onRef (s.ev x) (fun id => onRL (s.σ id) (fun els => onSome (elTy P T) fun _ => K (s.put dst (.v (.int .i64 els.length)))) (fun l => onSome (mapTy P T) fun _ => K (s.put dst (.v (.int .i64 l.length))))) (fun b => onSome (strTy P T) fun _ => K (s.put dst (.v (.int .i64 b.size))))
      (fun a => onSome (elTy P T) fun t => onSome (s.sl t.2.1 a) fun y => K (s.put dst (.v (.int .i64 y.2.length))))
  | .builtin .cap, ⟨[x]⟩, ⟨[T]⟩ => onSome (elTy P T) fun _ => onNil (s.ev x) (K (s.put dst (.v (.int .i64 0))))
  | .builtin .append, ⟨[x, y]⟩, ⟨[T, T']⟩ => onZ (s.ev y)
    (fun n => onSome (intTy P T') fun _ => onSome (elTy P T) fun t => onSome (zeroC P t.1) fun z => onSome dst fun d => onNil (s.ev x) (ask (0 < n ∧ n * t.2.2 ≤ 140737488355328 ∧ 0 < t.2.2 ∧ 0 < t.2.1) (K (s.new d (.row t.1 t.2.1 (List.replicate n.toNat (nilL (cty P t.1) z))) (.ref [d])))))
    (fun _ =>
    onSome dst fun d => onSome (elTy P T') fun _ => onSome (elTy P T) fun t => onSome (zeroC P t.1) fun _ => onSome (s.sl t.2.1 (s.ev y)) fun ys => onSome (appBase s d t.1 t.2.1 (s.ev x)) fun xs =>
      ask ((xs.2.length + ys.2.length) * t.2.2 ≤ 140737488355328 ∧ 0 < t.2.2)
        (onRef (s.ev y)
          (fun id' => sel (H d == 2)
            (ask (flatE ys.2 ∧ hit [id'] xs.1 = false) (K (((s.chg [xs.1] [xs.1]).obj xs.1 (.row t.1 t.2.1 (xs.2 ++ ys.2))).put (some d) (.ref xs.1))))
            (ask (hit [id'] xs.1 = false) (K (((s.chg [xs.1, id'] [xs.1, id']).obj xs.1 (.row t.1 t.2.1 (xs.2 ++ ys.2))).put (some d) (.ref xs.1)))))
          (fun _ => False)
          (fun _ => sel (isObj ys.1)
            (ask (flatE ys.2 ∧ killO [xs.1] ys.1 = false) (K (((s.chg [xs.1] [xs.1]).obj xs.1 (.row t.1 t.2.1 (xs.2 ++ ys.2))).put (some d) (.ref xs.1))))
            (K (((s.chg [xs.1] [xs.1]).obj xs.1 (.row t.1 t.2.1 (xs.2 ++ ys.2.map (List.map (AV.asrw ys.1))))).put (some d) (.ref xs.1))))))
  | .invoke x nm, as, _ => onIfc (s.ev x) fun t y => onSome (methF P t nm) fun f => CallI P f (y :: as.toList.map s.ev) s dst K
  | .builtin .min, ⟨[x, y]⟩, _ => binE .lss (s.ev y) (s.ev x) fun u => match u with | .bool t => sel t (K (s.put dst (s.ev y))) (K (s.put dst (s.ev x))) | _ => False
  | _, _, _ => False
def loadOp (P : Program) (T : TypeId) (a : Operand) (s : St) (K : AV → Prop) : Prop :=
  onSome (tySz P T) fun t => onAdr (s.ev a)
    (fun r _ _ els i k => onSome (els[i]?) fun cs => onSome (cut t.2 t.1 k cs (AV.asrd r)) K)
    (fun id sz i k => onOB (s.σ id) (fun _ sz' els => ask (sz' = sz) (onSome (els[i]?) fun cs => onSome (cut t.2 t.1 k cs (sel t.2 (AV.asrd (.obj id)) (AV.asat id sz' i k))) K))
      (fun _ cs => ask (i = 0) (onSome (cut t.2 t.1 k cs (fun a => a)) K)))
def takeOp (P : Program) (T : TypeId) (a : Operand) (d : Nat) (s : St) (K : St → Prop) : Prop :=
  onSome (tySz P T) fun t => onAdr (s.ev a) (fun _ _ _ _ _ _ => False)
    (fun id sz i k => onOB (s.σ id) (fun e sz' els => ask (sz' = sz) (onSome (els[i]?) fun cs => ask (Nat.ble 1 t.1 = true ∧ Nat.ble (k + t.1) cs.length = true) (onSome (cut t.2 t.1 k cs (fun c => c)) fun r =>
      K (St.ret ((s.chg [] [id]).obj id (.row e sz' (els.set i (setAt (((cs.drop k).take t.1).map fun _ => AV.any) k cs)))) (some d) r))))
      (fun _ _ => False))
def ldE (P : Program) (H : Nat → Nat) (dst : Option Nat) (T : TypeId) (a : Operand) (s : St) (K : St → Prop) : Prop :=
  match dst with
  | some d => sel (H d == 3) (takeOp P T a d s K) (loadOp P T a s fun x => K (s.put (some d) x))
  | none => loadOp P T a s fun x => K (s.put none x)
def storeOp (P : Program) (T : TypeId) (a x : Operand) (s : St) (K : St → Prop) : Prop :=
  onSome (tySz P T) fun t => withL (s.ev x).cells fun vc => ask (vc.length = t.1) (onAdr (s.ev a)
    (fun _ _ _ _ _ _ => False)
    (fun id sz' i k => onOB (s.σ id)
      (fun e sz els => onSome (els[i]?) fun cs => onSome (s.clL vc) fun vs => ask (sz = sz' ∧ k + t.1 ≤ cs.length ∧ indep vs.2 = true ∧ hit vs.2 id = false)
        (K ((s.chg vs.2 (id :: vs.2)).obj id (.row e sz (els.set i (setAt (nilL ((cty P e).drop k) vs.1) k cs))))))
      (fun t' cs => ask (i = 0 ∧ k + t.1 ≤ cs.length ∧ vc.all okBox = true)
        (K ((s.chg [] [id]).obj id (.box t' (setAt (killL [] [id] vc) k (killL [] [id] cs))))))))
def boundE (s : St) (x : Option Operand) (d : Int) (K : Int → Prop) : Prop :=
  match x with
  | none => K d
  | some x => onInt (s.ev x) K
def sliceOp (P : Program) (H : Nat → Nat) (dst : Option Nat) (T : TypeId) (x : Operand) (lo hi : Option Operand) (s : St) (K : St → Prop) : Prop :=
  onRef (s.ev x)
    (fun id => onSome (elTy P T) fun t => onOB (s.σ id) (fun u sz els => boundE s lo 0 fun l => boundE s hi els.length fun h => ask (sz = t.2.1 ∧ 0 ≤ l ∧ l ≤ h ∧ h ≤ els.length)
      (onSome dst fun d => sel (H d == 1)
        (K (((s.chg [id] [id]).obj id (.row u sz ((els.take h.toNat).drop l.toNat))).put dst (.ref id)))
        (K (s.put dst (.rd (.obj id) u sz ((els.take h.toNat).drop l.toNat)))))) (fun _ _ => False))
    (fun b => onSome (strTy P T) fun _ => boundE s lo 0 fun l => boundE s hi b.size fun h => ask (0 ≤ l ∧ l ≤ h ∧ h ≤ b.size) (K (s.put dst (.v (.string (b.extract l.toNat h.toNat))))))
    (fun a => onSome (elTy P T) fun t => onSome (s.sl t.2.1 a) fun y => boundE s lo 0 fun l => boundE s hi y.2.length fun h => ask (0 ≤ l ∧ l ≤ h ∧ h ≤ y.2.length)
      (K (s.put dst (slR a (.rd y.1.base t.1 t.2.1 ((y.2.take h.toNat).drop l.toNat))))))
def ixE (s : St) (dst : Option Nat) (x i : Operand) (K : St → Prop) : Ix → Prop
  | .sl t => onInt (s.ev i) fun n => onRef (s.ev x)
      (fun id => onSome (s.sl t.2.1 (.ref id)) fun y => ask (0 ≤ n ∧ n < y.2.length) (K (s.put dst (.ptr id t.2.1 n.toNat 0))))
      (fun _ => False)
      (fun a => onSome (s.sl t.2.1 a) fun y => ask (0 ≤ n ∧ n < y.2.length) (K (s.put dst (.rp y.1 t.1 t.2.1 y.2 n.toNat 0))))
  | .ar m sz => onInt (s.ev i) fun n => ask (0 ≤ n ∧ n < m) (onAdr (s.ev x)
      (fun o e sz' els i k => K (s.put dst (.rp o e sz' els i (k + n.toNat * sz)))) (fun id sz' i k => K (s.put dst (.ptr id sz' i (k + n.toNat * sz)))))
def asgE (P : Program) (H : Nat → Nat) (dst : Option Nat) (x : Operand) (s : St) (K : St → Prop) : Prop :=
  match dst, x with
  | some d, .const (.slice none 0 0) => sel (H d == 0) (K (s.put (some d) (.v (.slice none 0 0)))) (onSome (elTy P (H d - 100)) fun t => K (s.new d (.row t.1 t.2.1 []) (.ref [d])))
  | dst, x => K (s.put dst (s.ev x))
def opE (P : Program) (H : Nat → Nat) (dst : Option Nat) (op : Op) (s : St) (K : St → Prop) : Prop :=
  match op with
  | .move x => K (s.put dst (s.ev x))
  | .assign x => asgE P H dst x s K
  | .pick c a b => onBool (s.ev c) fun t => ifB t (K (s.put dst (s.ev a))) (K (s.put dst (s.ev b)))
  | .binOp op t x y _ => binT P t s.σ op (s.ev x) (s.ev y) fun u => K (s.put dst (.v u))
  | .unOp op _ x => unE op (s.ev x) fun u => K (s.put dst (.v u))
  | .convert src dt x => onSome (cvTy P src dt) fun
    | .int k => onInt (s.ev x) fun n => K (s.put dst (.v (.int k (k.wrap n))))
    | .bytes => onSome (s.sl 1 (s.ev x)) fun y => onBytes y.2 fun bs => K (s.put dst (.v (.string ⟨bs.toArray⟩)))
    | .str => onRef (s.ev x) (fun _ => False) (fun b => K (s.put dst (.v (.string b)))) (fun _ => False)
    | .same => onRef (s.ev x) (fun id => onOB (s.σ id) (fun u sz els => ask (sz = 1 ∧ 0 < els.length) (K (((s.chg [] [id]).obj id (.row u sz els)).put dst (.ref id)))) (fun _ _ => False)) (fun _ => False) (fun _ => False)
    | .ofs e => onSome dst fun d => onRef (s.ev x) (fun _ => False) (fun b => ask (b.size ≤ 140737488355328) (K (s.new d (.row e 1 (strEls b)) (.ref [d])))) (fun _ => False)
  | .indexAddr T x i => onSome (ixTy P T) (ixE s dst x i K)
  | .build T parts => onSome (bldTy P T) fun b => onSome (zeroC P T) fun z => onSome (fillE s b z parts.toList) fun cs => K (s.put dst (.agg cs))
  | .load T a => ldE P H dst T a s K
  | .store T a x => storeOp P T a x s fun s => K (s.put dst .any)
  | .fieldAddr S x j => sel (S == 200) (onSome (zeroFld P S j) fun _ => onAdr (s.ev x) (fun _ _ _ _ _ _ => False) (fun id _ i k => onOB (s.σ id) (fun _ _ _ => False) (fun t cs => ask (i = 0 ∧ k = 0 ∧ t = S ∧ cs.length = 0) (K (s.put dst (.ptr id 0 0 0)))))) (onSome (fldTy P S j) fun t => ask (t.2.1 ≠ 0) (onAdr (s.ev x) (fun r e sz els i k => K (s.put dst (.rp r e sz els i (k + t.1)))) (fun id sz i k => K (s.put dst (.ptr id sz i (k + t.1))))))
  | .field S x j => onSome (fldTy P S j) fun t => onAgg (s.ev x) fun cs => onSome (cut t.2.2 t.2.1 t.1 cs (fun a => a)) fun x => K (s.put dst x)
  | .slice T x lo hi none => sliceOp P H dst T x lo hi s K
  | .makeSlice T n c => onSome (elTy P T) fun t => onSome (zeroC P t.1) fun z => onSome dst fun d => onInt (s.ev n) fun n => onInt (s.ev c) fun c =>
      ask (0 ≤ n ∧ n ≤ c ∧ c * t.2.2 ≤ 140737488355328 ∧ 0 < t.2.2) (K (s.new d (.row t.1 t.2.1 (List.replicate n.toNat (nilL (cty P t.1) z))) (.ref [d])))
  | .buildSlice T len parts => onSome (elTy P T) fun t => onSome dst fun d => onSome (partsOf s 0 parts.toList) fun els => onSome (zeroC P t.1) fun _ => ask (els.length = len ∧ 0 < t.2.1 ∧ len * t.2.1 ≤ 16777216) (onSome (s.clE t.2.1 (cty P t.1) els) fun y =>
      ask (indep y.2 = true) (sel (H d == 0) (K (((s.chg ([d] :: y.2) ([d] :: y.2)).obj [d] (.row t.1 t.2.1 y.1)).put (some d) (.ref [d])))
        (onRef (s.env (H (d + 500000))) (fun id => onSome (relOf id (els[H d - 1000]?) (y.1[H d - 1000]?)) fun r => ask (t.2.1 = 1 ∧ H (d + 500000) ≠ d)
          (K ((((s.chg ([d] :: y.2) ([d] :: y.2)).obj [d] (.row t.1 t.2.1 y.1)).put (some d) (.ref [d])).put (some (H (d + 500000))) (.rd (.at [d] t.2.1 (H d - 1000) 0) r.1 r.2.1 r.2.2)))) (fun _ => False) (fun _ => False))))
  | .box t x => onSome (tySz P t) fun y => onSome dst fun d => withL (s.ev x).cells fun vc => ask (vc.length = y.1 ∧ vc.all okBox = true) (K (s.new d (.box t (killL [[d]] [[d]] vc)) (.ptr [d] 0 0 0)))
  | .lookup T x i c => onSome (mapTy P T) fun t => onSome (zeroV P t.2) fun z => onRef (s.ev x) (fun id => onMp (s.σ id) fun d _ l => onV (s.ev i) fun u => ask (d = t.1 ∧ MapKept.IsKey d u) (K (s.put dst (mapAns c z l u)))) (fun _ => False) (fun _ => False)
  | .mapUpdate T x i y => onSome (mapTy P T) fun t => onRef (s.ev x) (fun id => onMp (s.σ id) fun d e l => onV (s.ev i) fun u => onV (s.ev y) fun v => ask (d = t.1 ∧ MapKept.IsKey d u) (K (((s.chg [] [id]).obj id (.mp d e (mput l u v))).put dst .any))) (fun _ => False) (fun _ => False)
  | .makeMap T none => onSome (mapTy P T) fun t => onSome dst fun d => K (s.new d (.mp t.1 t.2 []) (.ref [d]))
  | .alloc t => onSome (zeroC P t) fun z => onSome dst fun d => K (s.new d (.box t z) (.ptr [d] 0 0 0))
  | .nilCheck x => onMth (s.ev x) (fun nm t => onSome (methF P t nm) fun _ => K (s.put dst (s.ev x))) (onAdr (s.ev x) (fun r e sz els i k => K (s.put dst (.rp r e sz els i k))) (fun id sz i k => K (s.put dst (.ptr id sz i k))))
  | .extract t k => onTup (s.ev t) fun cs => onSome (cs[k]?) fun c => K (s.put dst c)
  | .call c => callOp P H dst c s K
  | .makeFunc (.func f) ⟨[]⟩ caps => K (s.put dst (.fn f (caps.toList.map s.ev)))
  | .makeFunc (.method nm) ⟨[x]⟩ ⟨[]⟩ => onIfc (s.ev x) fun t _ => ∀ v : Value, K (s.put dst (.v (.func (.method nm) #[.iface t v] #[])))
  | .makeInterface T x => onSome (ifcTy P T) fun _ => K (s.put dst (.ifc T (s.ev x)))
  | _ => False
def opsE (P : Program) (H : Nat → Nat) : List SOp → St → (St → Prop) → Prop
  | [], s, K => K s
  | ⟨dst, op, none⟩ :: l, s, K => opE P H dst op s (fun s' => opsE P H l s' K)
  | ⟨dst, op, some (some c, want)⟩ :: l, s, K =>
    onGd (s.env c) (fun t => ifB (t == want) (opE P H dst op (s.put (some c) (.v (.bool want))) (fun s' => opsE P H l s' K)) (opsE P H l ((s.put (some c) (.v (.bool !want))).put dst (.tup [])) K)) (opsE P H l (s.put dst (.tup [])) K)
  | ⟨_, _, some (none, _)⟩ :: _, _, _ => False
inductive Ex where
  | normal
  | exit (id : Nat)
  | ret
def Ex.then (x : St → Prop) (Q : Ex → St → Prop) : Ex → St → Prop
  | .normal, s => x s
  | e, s => Q e s
def Ex.block (id : Nat) (Q : Ex → St → Prop) : Ex → St → Prop
  | .exit i, s => sel (i == id) (Q .normal s) (Q (.exit i) s)
  | e, s => Q e s
inductive Wk : St → St → Prop
  | refl (s : St) : Wk s s
  | nil {s s' : St} (d : Nat) (id : Id) (e sz : Nat) (h : s.env d = .v (.slice none 0 0)) (k : Wk (((s.chg [id] [id]).obj id (.row e sz [])).put (some d) (.ref id)) s') : Wk s s'
  | box {s s' : St} (id : Id) (k : Nat) (cid : Id) (e sz t : Nat) (cs : List AV) (h : s.σ id = some (.box t cs)) (hk : cs[k]? = some (.v (.slice none 0 0))) (hne : cmp cid id = false)
      (w : Wk (((s.chg [cid] [cid]).obj cid (.row e sz [])).obj id (.box t ((killL [cid] [cid] cs).set k (.ref cid)))) s') : Wk s s'
  | mv {s s' : St} (id : Id) (k : Nat) (oid cid : Id) (e sz t : Nat) (cs : List AV) (els : List (List AV)) (h : s.σ id = some (.box t cs)) (hk : cs[k]? = some (.ref oid)) (ho : s.σ oid = some (.row e sz els)) (hne : cmp cid id = false) (hno : cmp oid id = false)
      (w : Wk (((s.chg [oid, cid] [oid, cid]).obj cid (.row e sz els)).obj id (.box t ((killL [oid, cid] [oid, cid] cs).set k (.ref cid)))) s') : Wk s s'
def LoopE (step : St → (Ex → St → Prop) → Prop) (s : St) (Q : Ex → St → Prop) : Prop :=
  ∃ (I : Nat → St → Prop) (n : Nat), (∃ s', Wk s s' ∧ I n s') ∧ ∀ n s, I n s → step s (Ex.then (fun s' => ∃ n', n' < n ∧ ∃ s'', Wk s' s'' ∧ I n' s'') Q)
theorem LoopE.cntW {step : St → (Ex → St → Prop) → Prop} {s s0 : St} {Q : Ex → St → Prop} (N : Nat) (I : Nat → St → Prop) (h0 : Wk s s0) (h : I 0 s0) (hr : ∀ i s, i ≤ N → I i s → ∀ K : St → Prop, (∀ s' s'', i < N → Wk s' s'' → I (i + 1) s'' → K s') → step s (Ex.then K Q)) : LoopE step s Q := by
  refine ⟨fun n s => ∃ i, i ≤ N ∧ n = N - i ∧ I i s, N, ⟨s0, h0, 0, Nat.zero_le _, rfl, h⟩, ?_⟩
  rintro n s ⟨i, hi, rfl, hI⟩
  exact hr i s hi hI _ fun s' s'' h1 hw h2 => ⟨N - (i + 1), by omega, s'', hw, i + 1, by omega, rfl, h2⟩
theorem LoopE.cnt {step : St → (Ex → St → Prop) → Prop} {s : St} {Q : Ex → St → Prop} (N : Nat) (I : Nat → St → Prop) (h : I 0 s) (hr : ∀ i s, i ≤ N → I i s → ∀ K : St → Prop, (∀ s', i < N → I (i + 1) s' → K s') → step s (Ex.then K Q)) : LoopE step s Q :=
  LoopE.cntW N I (.refl s) h fun i s hi hI K hK => hr i s hi hI K fun s' h1 h2 => hK s' s' h1 (.refl s') h2
def hint : List (Nat × Nat) → Nat → Nat
  | [], _ => 0
  | x :: l, d => sel (d == x.1) x.2 (hint l d)
def opsAt (ops : Array Oper) (π : List Nat) : List Oper := π.filterMap fun i => ops[i]?
def hBl (H : Nat → Nat) : Nat → Nat := fun d => sel (d == 1000000) 1 (H d)
def St.anys (s : St) : List Nat → St
  | [] => s
  | d :: ds => (s.anys ds).put (some d) .any
def rmD (d : Option Nat) : List Nat → List Nat
  | [] => []
  | x :: xs => match d with | some d => sel (x == d) (rmD (some d) xs) (x :: rmD (some d) xs) | none => x :: xs
def onOp (o : Option Oper) (k : Oper → Prop) : Prop := match o with | some o => k o | none => False
@[irreducible] def isX (i : Nat) : Bool := i - 999 == 0
theorem isX_eq (i : Nat) : isX i = (i - 999 == 0) := by unfold isX; rfl
def opsD (P : Program) (H : Nat → Nat) (ops : Array Oper) : List Nat → List Nat → St → (St → Prop) → Prop
  | _, [], s, K => K s
  | ann, i :: π, s, K => sel (isX i)
    (onOp (ops[i]?) fun o => opsE P H (stripL ops [o]) s fun s' => opsD P H ops (rmD o.dst ann) π (s'.anys (rmD o.dst ann)) K)
    (onOp (ops[i - 1000]?) fun o => onSome o.dst fun d => ask (opE P H (some d) o.op s (fun _ => True)) (opsD P H ops (d :: ann) π (s.anys [d]) K))
@[irreducible] def isY (i : Nat) : Bool := i - 1999 == 0
theorem isY_eq (i : Nat) : isY i = (i - 1999 == 0) := by unfold isY; rfl
def opsM (P : Program) (H : Nat → Nat) (ops : Array Oper) : List Nat → St → (St → Prop) → Prop
  | [], s, K => K s
  | i :: π, s, K => sel (isY i)
    (onOp (ops[i]?) fun o => opsE P (hBl H) (stripL ops [o]) s fun s' => opsM P H ops π s' K)
    (onOp (ops[i - 2000]?) fun o => opsE P H (stripL ops [o]) s fun s' => opsM P H ops π s' K)
def combE (P : Program) (H : Nat → Nat) (ops : Array Oper) (x : Nat) : List Nat → List Nat → St → (St → Prop) → Prop
  | [], π, s, K => onOp (ops[x]?) fun o => opsE P H (stripL ops [o]) s fun s' => opsE P H (stripL ops (opsAt ops π)) s' K
  | c :: cs, π, s, K => onOp (ops[x]?) (fun o => opsE P H (stripL ops [o]) s fun s' => opsE P H (stripL ops (opsAt ops (c :: (cs ++ π)))) s' K) ∧ onOp (ops[c]?) fun o => opsE P H (stripL ops [o]) s fun s' => combE P H ops x cs π s' K
def opsC (P : Program) (H : Nat → Nat) (ops : Array Oper) : List Nat → St → (St → Prop) → Prop
  | x :: p :: q :: π, s, K => opsE P H (stripL ops (opsAt ops (π.take p))) s fun s' => combE P H ops x ((π.drop p).take q) ((π.drop p).drop q) s' K
  | _, _, _ => False
@[irreducible] def isT (i : Nat) : Bool := i - 899 == 0
@[irreducible] def isU (i : Nat) : Bool := 2000 - i == 0
theorem isU_eq (i : Nat) : isU i = (2000 - i == 0) := by unfold isU; rfl
def opsT (P : Program) (H : Nat → Nat) (ops : Array Oper) : List Nat → List Nat → St → (St → Prop) → Prop
  | _, [], s, K => K s
  | [], _ :: _, _, _ => False
  | _ :: f, i :: π, s, K => sel (isT i) (onOp (ops[i]?) fun o => opsE P (hBl H) (stripL ops [o]) s fun s' => opsT P H ops f π s' K) <| sel (isU i) (onOp (ops[i - 2000]?) fun o => opsE P H (stripL ops [o]) s fun s' => opsT P H ops f π s' K) (opsT P H ops f (π.take (i - 900)) s K ∧ opsT P H ops f (π.drop (i - 900)) s K)
def regE (P : Program) (H : Nat → Nat) (ops : Array Oper) : List Nat → St → (St → Prop) → Prop
  | [], s, K => opsE P H (stripL ops ops.toList) s K
  | i :: π, s, K => sel (i == 996) (opsT P H ops π π s K) <| sel (i == 997) (opsC P (hBl H) ops π s K) <| sel (i == 998) (opsM P H ops π s K) (sel (i == 999) (opsD P (hBl H) ops [] π s K) (opsE P (hBl H) (stripL ops (opsAt ops (i :: π))) s K))
def awp (P : Program) (H : Nat → Nat) (O : Nat → List Nat) : Code → St → (Ex → St → Prop) → Prop
  | .skip, s, Q => Q .normal s
  | .region id ops false, s, Q => opsE P H (stripL ops ops.toList) s (Q .normal)
  | .region id ops true, s, Q => regE P H ops (O id) s (Q .normal)
  | .seq a b, s, Q => awp P H O a s (Ex.then (fun s' => awp P H O b s' Q) Q)
  | .cond c a b, s, Q => onBool (s.ev c) fun t => ifB t (awp P H O a s Q) (awp P H O b s Q)
  | .block id c, s, Q => awp P H O c s (Ex.block id Q)
  | .loop c, s, Q => LoopE (awp P H O c) s Q
  | .exit id, s, Q => Q (.exit id) s
  | .ret, s, Q => Q .ret s
  | .scope c, s, Q => awp P H O c s Q
  | .label _, s, Q => Q .normal s
  | _, _, _ => False
def boxOf : Option OB → Option (List AV)
  | some (.box _ cs) => some cs
  | _ => none
def ptrBox (s : St) : AV → Option (List AV × Nat)
  | .ptr id _ 0 k => bindO (boxOf (s.σ id)) fun cs => some (cs, k)
  | _ => none
def retA (P : Program) (s : St) : List ResultVar → Option (List AV)
  | [] => some []
  | .tmp t :: rs => bindO (retA P s rs) fun l => some (s.env t :: l)
  | .cell a T :: rs => bindO (tySz P T) fun t => bindO (ptrBox s (s.env a)) fun y => bindO (cut t.2 t.1 y.2 y.1 (fun a => a)) fun x => bindO (retA P s rs) fun l => some (x :: l)
def St.clA (s : St) : AV → Option (AV × List Id)
  | .agg cs => bindO (s.clL cs) fun x => some (.agg x.1, x.2)
  | .ptr id _ 0 0 => bindO (boxTC (s.σ id)) fun b => bindO (s.clL b.2) fun x => some (.bx b.1 x.1, id :: x.2)
  | a => s.clC a
def St.clAs (s : St) : List AV → Option (List AV × List Id)
  | [] => some ([], [])
  | c :: cs => bindO (s.clA c) fun x => bindO (s.clAs cs) fun y => some (x.1 :: y.1, x.2 ++ y.2)
def nilAs (P : Program) : List TypeId → List AV → List AV
  | t :: ts, a :: as => nilA (cty P t) a :: nilAs P ts as
  | _, as => as
def tupOf : List AV → AV
  | [r] => r
  | rs => .tup rs
def retE (P : Program) (rs : List ResultVar) (ts : List TypeId) (s : St) (post : AV → Prop) : Prop :=
  onSome (retA P s rs) fun l => onSome (s.clAs l) fun y => ask (indep y.2 = true) (post (tupOf (nilAs P ts y.1)))
def RetQ (P : Program) (rs : List ResultVar) (ts : List TypeId) (post : AV → Prop) : Ex → St → Prop
  | .normal, s => retE P rs ts s post
  | .ret, s => retE P rs ts s post
  | _, _ => False
def asrdA (a : AV) : AV := a.asrd .ent
def initE (args : List AV) : Nat → AV := fun k => match args[k]? with | some a => asrdA a | none => .any
def initS : Id → Option OB := fun _ => none
def St.init (args : List AV) : St := ⟨initE args, initS⟩
def initEM (ps : List PA) : Nat → AV := fun k => match ps[k]? with | some (.rd a) => a.asrd .ent | some (.mu a) => (opnB [1000000] k a).1 | none => .any
def objsM (vals : Nat → Value) : Nat → List PA → List (Id × OB)
  | _, [] => []
  | q, .rd _ :: ps => objsM vals (q + 1) ps
  | q, .mu a :: ps => (opnB [1000000] q a).2 ++ ([1000001, q], .pin (opnB [1000000] q a).1 (vals q)) :: objsM vals (q + 1) ps
def St.initM (vals : Nat → Value) (ps : List PA) : St := ⟨initEM ps, updL initS (objsM vals 0 ps)⟩
def pinOf : Option OB → AV
  | some (.pin c _) => c
  | _ => .any
def pinV : Option OB → Value → Prop
  | some (.pin _ x), v => x = v
  | _, _ => True
def pinsE (s : St) (vals : Nat → Value) : Nat → List PA → Prop
  | _, [] => True
  | q, .rd _ :: ps => pinsE s vals (q + 1) ps
  | q, .mu _ :: ps => pinV (s.σ [1000001, q]) (vals q) ∧ pinsE s vals (q + 1) ps
def rowT (id : Id) : Option OB → AV × List Id
  | some (.row e sz els) => (.row e sz els, [id])
  | _ => (.any, [])
def St.clTC (s : St) : AV → AV × List Id
  | .ref id => rowT id (s.σ id)
  | a => getO (s.clC a) (.any, [])
def St.clTL (s : St) : List AV → List AV × List Id
  | [] => ([], [])
  | c :: cs => ((s.clTC c).1 :: (s.clTL cs).1, (s.clTC c).2 ++ (s.clTL cs).2)
def boxT (P : Program) (s : St) (id : Id) : Option OB → AV × List Id
  | some (.box t cs) => getO (bindO (s.clL cs) fun x => some (.bx t (nilL (cty P t) x.1), id :: x.2)) (.any, [])
  | _ => (.any, [])
def St.clT (P : Program) (s : St) (ts : List (Option (Nat × Nat))) : AV → AV × List Id
  | .agg cs => (.agg (nilL ts (s.clTL cs).1), (s.clTL cs).2)
  | .ptr id _ 0 0 => boxT P s id (s.σ id)
  | a => (nilC (ts.headD none) (s.clTC a).1, (s.clTC a).2)
def St.clTs (P : Program) (s : St) (I : List Id) : Nat → List PA → List TypeId → List AV × List Id
  | q, .rd _ :: ps, _ :: ts => (.any :: (s.clTs P I (q + 1) ps ts).1, (s.clTs P I (q + 1) ps ts).2)
  | q, .mu _ :: ps, t :: ts => ((s.clT P (cty P t) ((pinOf (s.σ [1000001, q])).kill I [])).1 :: (s.clTs P I (q + 1) ps ts).1, (s.clT P (cty P t) ((pinOf (s.σ [1000001, q])).kill I [])).2 ++ (s.clTs P I (q + 1) ps ts).2)
  | _, _, _ => ([], [])
def retEM (P : Program) (rs : List ResultVar) (ts : List TypeId) (pts : List TypeId) (vals : Nat → Value) (ps : List PA) (s : St) (post : AV → List AV → Prop) : Prop :=
  onSome (retA P s rs) fun l => onSome (s.clAs l) fun y => withL (s.clTs P y.2 0 ps pts) fun z => ask (indep (y.2 ++ z.2) = true ∧ pinsE s vals 0 ps) (post (tupOf (nilAs P ts y.1)) z.1)
def RetQM (P : Program) (rs : List ResultVar) (ts : List TypeId) (pts : List TypeId) (vals : Nat → Value) (ps : List PA) (post : AV → List AV → Prop) : Ex → St → Prop
  | .normal, s => retEM P rs ts pts vals ps s post
  | .ret, s => retEM P rs ts pts vals ps s post
  | _, _ => False
def quietN (ops : Array Oper) (q : Op → Bool) : Nat := (ops.toList.takeWhile fun o => q o.op).length
def quietOp : Op → Bool
  | .convert s d _ => s != d && s != 9
  | .move _ | .assign _ | .pick .. | .binOp .. | .unOp .. | .indexAddr .. | .build .. | .load .. | .fieldAddr .. | .field .. | .slice .. | .nilCheck _ | .extract .. | .lookup .. | .makeFunc .. | .makeInterface .. => true
  | .call c => match c.callee with | .builtin .len | .builtin .min | .builtin .cap => true | _ => false
  | _ => false
def memFree : Op → Bool
  | .load .. | .convert .. | .lookup .. => false
  | .fieldAddr S _ _ => S != 200
  | .call c => match c.callee with | .builtin .len => false | _ => true
  | _ => true
def growOp : Op → Bool
  | .store .. | .mapUpdate .. => false
  | .convert s d _ => s != d && s != 9
  | .call c => match c.callee with | .builtin .append => false | _ => true
  | _ => true
def ancB (md : Region.Mode) (ops : Array Oper) : Nat → Nat → Nat → Bool
  | 0, _, _ => false
  | f + 1, e, i => Region.waitsFor md ops e i || (List.range ops.size).any fun j => Region.waitsFor md ops e j && ancB md ops f j i
def drawOk (ops : Array Oper) : List Nat → Array Bool → Bool
  | [], listed => (Region.ready .any ops listed).isEmpty
  | i :: π, listed => (Region.ready .any ops listed).contains i && (match ops[i]? with | some o => (quietOp o.op && Region.free .any ops listed i) || Region.ready .any ops listed == [i] | none => false) && drawOk ops π (listed.setIfInBounds i true)
def pendOp : Op → Bool
  | .buildSlice .. | .alloc _ | .box .. | .makeSlice .. | .makeMap _ none => true
  | _ => false
def listAll (listed : Array Bool) (l : List Nat) : Array Bool := l.foldl (fun a k => a.setIfInBounds k true) listed
def stableB (ops : Array Oper) (listed : Array Bool) (j : Nat) (oj : Oper) : Bool :=
  (List.range ops.size).all fun k => k == j || listed.getD k true || match ops[k]? with
    | some ok => match ok.dst with | some d => !(oj.looksAt ops).contains d && oj.dst != some d | none => true
    | none => true
def drawOkD (ops : Array Oper) : List Nat → Array Bool → List Nat → Bool
  | [], listed, ann => (Region.ready .any ops listed).isEmpty && ann.isEmpty
  | i :: π, listed, ann => if isX i then
      (Region.ready .any ops listed).contains i && (match ops[i]? with
        | some o => (quietOp o.op && Region.free .any ops listed i && !ann.contains i) || (Region.ready .any ops (listAll listed (ann.filter (· != i))) == [i] && ((ann.filter (· != i)).isEmpty || growOp o.op))
        | none => false) && drawOkD ops π (listed.setIfInBounds i true) (ann.filter (· != i))
    else (Region.ready .any ops listed).contains (i - 1000) && (match ops[i - 1000]? with
        | some o => pendOp o.op && o.guard.isNone && (match o.dst with | some d => !(o.looksAt ops).contains d | none => false) && !ann.contains (i - 1000) && stableB ops listed (i - 1000) o
        | none => false) && drawOkD ops π listed ((i - 1000) :: ann)
def loadsOk (ops : Array Oper) : Bool :=
  (List.range ops.size).all fun i => (List.range ops.size).all fun j =>
    match ops[i]?, ops[j]? with
    | some oi, some oj => !quietOp oi.op || memFree oi.op || growOp oj.op || ancB .any ops ops.size j i
    | _, _ => true
def unM (i : Nat) : Nat := if isY i = true then i else i - 2000
def loadsOkM (ops : Array Oper) (M : List Nat) : Bool :=
  (List.range ops.size).all fun i => (List.range ops.size).all fun j =>
    match ops[i]?, ops[j]? with
    | some oi, some oj => !quietOp oi.op || memFree oi.op || (growOp oj.op && !M.contains (j + 2000)) || ancB .any ops ops.size j i
    | _, _ => true
def loadOk1 (ops : Array Oper) (i : Nat) : Bool :=
  (List.range ops.size).all fun j => match ops[i]?, ops[j]? with
    | some oi, some oj => !quietOp oi.op || memFree oi.op || growOp oj.op || ancB .any ops ops.size j i
    | _, _ => true
def drawOkP (ops : Array Oper) : List Nat → Array Bool → Bool
  | [], _ => true
  | i :: π, listed => (Region.ready .any ops listed).contains i && (match ops[i]? with | some o => (quietOp o.op && Region.free .any ops listed i) || Region.ready .any ops listed == [i] | none => false) && loadOk1 ops i && drawOkP ops π (listed.setIfInBounds i true)
def endOk (ops : Array Oper) (π : List Nat) (listed : Array Bool) : Bool := drawOkP ops π listed && (Region.ready .any ops (listAll listed π)).isEmpty
def combOk (ops : Array Oper) (x : Nat) : List Nat → List Nat → Array Bool → Bool
  | [], π, listed => Region.ready .any ops listed == [x] && endOk ops π (listed.setIfInBounds x true)
  | c :: cs, π, listed => (Region.ready .any ops listed).contains x && (Region.ready .any ops listed).all (fun i => i == x || i == c) && endOk ops (c :: (cs ++ π)) (listed.setIfInBounds x true) && combOk ops x cs π (listed.setIfInBounds c true)
def wfC (ops : Array Oper) : List Nat → Bool
  | x :: p :: q :: π => π.length + 1 == ops.size && drawOkP ops (π.take p) (Array.replicate ops.size false) && combOk ops x ((π.drop p).take q) ((π.drop p).drop q) (listAll (Array.replicate ops.size false) (π.take p))
  | _ => false
def hdN (π : List Nat) : Nat := π.headD 0
def loadOk1M (ops : Array Oper) (M : List Nat) (i : Nat) : Bool :=
  (List.range ops.size).all fun j => match ops[i]?, ops[j]? with
    | some oi, some oj => !quietOp oi.op || memFree oi.op || (growOp oj.op && !M.contains (j + 2000)) || ancB .any ops ops.size j i
    | _, _ => true
def isO (i : Nat) : Bool := isT i || isU i
def unT (i : Nat) : Nat := if isT i = true then i else i - 2000
def treeOk (ops : Array Oper) (M : List Nat) : List Nat → List Nat → Array Bool → Bool → Bool
  | _, [], listed, _ => (Region.ready .any ops listed).isEmpty
  | [], _ :: _, _, _ => false
  | _ :: f, i :: π, listed, fr => if isT i then
      (Region.ready .any ops listed).contains i && !M.contains (i + 2000) && (fr || (match ops[i]? with | some o => quietOp o.op && Region.free .any ops listed i && loadOk1M ops M i | none => false) || Region.ready .any ops listed == [i]) && treeOk ops M f π (listed.setIfInBounds i true) false
    else if isU i then
      (Region.ready .any ops listed).contains (i - 2000) && M.contains i && (fr || Region.ready .any ops listed == [i - 2000]) && treeOk ops M f π (listed.setIfInBounds (i - 2000) true) false
    else !fr && !(Region.ready .any ops listed).isEmpty && isO (hdN (π.take (i - 900))) && isO (hdN (π.drop (i - 900))) && !(π.take (i - 900)).isEmpty && !(π.drop (i - 900)).isEmpty && (Region.ready .any ops listed).all (fun j => j == unT (hdN (π.take (i - 900))) || j == unT (hdN (π.drop (i - 900)))) && treeOk ops M f (π.take (i - 900)) listed true && treeOk ops M f (π.drop (i - 900)) listed true
def wfOps (n : Nat) (ops : Array Oper) : Bool := ops.all fun o => match o.dst with | some d => decide (d < n) | none => true
def wfDraw (ops : Array Oper) (π : List Nat) : Bool :=
  match π with
  | [] => (Region.lexB .any ops && ops.all fun o => quietOp o.op) || Region.lexTailB .any ops (quietN ops quietOp)
  | i :: π => if i == 996 then Region.noSelect ops && treeOk ops π π π (Array.replicate ops.size false) false else if i == 997 then Region.noSelect ops && wfC ops π else if i == 998 then Region.noSelect ops && loadsOkM ops π && π.length == ops.size && drawOk ops (π.map unM) (Array.replicate ops.size false) else Region.noSelect ops && loadsOk ops && (if i == 999 then drawOkD ops π (Array.replicate ops.size false) [] else (i :: π).length == ops.size && drawOk ops (i :: π) (Array.replicate ops.size false))
def wfCode (O : Nat → List Nat) (n : Nat) : Code → Bool
  | .region id ops draw => wfOps n ops && (!draw || wfDraw ops (O id))
  | .seq a b => wfCode O n a && wfCode O n b
  | .cond _ a b => wfCode O n a && wfCode O n b
  | .block _ c => wfCode O n c
  | .loop c => wfCode O n c
  | .scope c => wfCode O n c
  | .label _ => true
  | .skip | .exit _ | .ret => true
  | _ => false
end Go.Ev
set_option linter.unusedVariables false
set_option linter.unusedSimpArgs false
namespace Go.Ev
open Go Go.RowKit
section
variable {P : Program} {H : Nat → Nat} {O : Nat → List Nat} {e : Nat → AV} {σ : Id → Option OB} {Q : Ex → St → Prop} {K : St → Prop}
theorem awp_skip (s : St) : awp P H O .skip s Q = Q .normal s := rfl
theorem awp_region (id : Nat) (ops : List Oper) : awp P H O (.region id ops.toArray false) ⟨e, σ⟩ Q = opsE P H (stripL ops.toArray ops) ⟨e, σ⟩ (Q .normal) := rfl
theorem awp_draw (id : Nat) (ops : List Oper) : awp P H O (.region id ops.toArray true) ⟨e, σ⟩ Q = regE P H ops.toArray (O id) ⟨e, σ⟩ (Q .normal) := rfl
theorem regE_nil (ops : List Oper) : regE P H ops.toArray [] ⟨e, σ⟩ K = opsE P H (stripL ops.toArray ops) ⟨e, σ⟩ K := rfl
theorem regE_cons (ops : List Oper) (i : Nat) (π : List Nat) : regE P H ops.toArray (i :: π) ⟨e, σ⟩ K = selL (i == 996) (opsT P H ops.toArray π π ⟨e, σ⟩ K) (selL (i == 997) (opsC P (hBl H) ops.toArray π ⟨e, σ⟩ K) (selL (i == 998) (opsM P H ops.toArray π ⟨e, σ⟩ K) (selL (i == 999) (opsD P (hBl H) ops.toArray [] π ⟨e, σ⟩ K) (opsE P (hBl H) (stripL ops.toArray (opsAt ops.toArray (i :: π))) ⟨e, σ⟩ K) .mk .mk) .mk .mk) .mk .mk) .mk .mk := rfl
theorem opsM_nil (ops : Array Oper) (s : St) : opsM P H ops [] s K = K s := rfl
theorem opsM_cons (ops : List Oper) (i : Nat) (π : List Nat) : opsM P H ops.toArray (i :: π) ⟨e, σ⟩ K = selL (isY i)
    (onOp (ops[i]?) fun o => opsE P (hBl H) (stripL ops.toArray [o]) ⟨e, σ⟩ fun s' => opsM P H ops.toArray π s' K)
    (onOp (ops[i - 2000]?) fun o => opsE P H (stripL ops.toArray [o]) ⟨e, σ⟩ fun s' => opsM P H ops.toArray π s' K) .mk .mk := by
  show sel _ (onOp (ops.toArray[i]?) _) (onOp (ops.toArray[i - 2000]?) _) = _
  rw [List.getElem?_toArray, List.getElem?_toArray]
  rfl
theorem opsD_nil (ops : Array Oper) (ann : List Nat) (s : St) : opsD P H ops ann [] s K = K s := rfl
theorem opsD_cons (ops : List Oper) (ann : List Nat) (i : Nat) (π : List Nat) : opsD P H ops.toArray ann (i :: π) ⟨e, σ⟩ K = selL (isX i)
    (onOp (ops[i]?) fun o => opsE P H (stripL ops.toArray [o]) ⟨e, σ⟩ fun s' => opsD P H ops.toArray (rmD o.dst ann) π (s'.anys (rmD o.dst ann)) K)
    (onOp (ops[i - 1000]?) fun o => onSome o.dst fun d => ask (opE P H (some d) o.op ⟨e, σ⟩ (fun _ => True)) (opsD P H ops.toArray (d :: ann) π (St.anys ⟨e, σ⟩ [d]) K)) .mk .mk := by
  show sel _ (onOp (ops.toArray[i]?) _) (onOp (ops.toArray[i - 1000]?) _) = _
  rw [List.getElem?_toArray, List.getElem?_toArray]
  rfl
theorem onOp_some (o : Oper) (k : Oper → Prop) : onOp (some o) k = k o := rfl
theorem rmD_nil (d : Option Nat) : rmD d [] = [] := rfl
theorem rmD_cons (d x : Nat) (xs : List Nat) : rmD (some d) (x :: xs) = sel (x == d) (rmD (some d) xs) (x :: rmD (some d) xs) := rfl
theorem anys_nil (s : St) : s.anys [] = s := rfl
theorem anys_cons (d : Nat) (ds : List Nat) (s : St) : s.anys (d :: ds) = (s.anys ds).put (some d) .any := rfl
theorem ask_assoc (p r q : Prop) : ask (ask p r) q = ask p (ask r q) := by simp [ask, and_assoc]
theorem hBl_get (d : Nat) : hBl H d = sel (d == 1000000) 1 (H d) := rfl
def consO : Option Oper → List Oper → List Oper
  | some o, l => o :: l
  | none, l => l
theorem consO_some (o : Oper) (l : List Oper) : consO (some o) l = o :: l := rfl
theorem opsAt_nil (ops : Array Oper) : opsAt ops [] = [] := rfl
theorem opsAt_cons (ops : List Oper) (i : Nat) (π : List Nat) : opsAt ops.toArray (i :: π) = consO (ops[i]?) (opsAt ops.toArray π) := by
  cases h : ops[i]? <;> simp [opsAt, List.filterMap_cons, h, consO]
theorem awp_seq (a b : Code) : awp P H O (.seq a b) ⟨e, σ⟩ Q = awp P H O a ⟨e, σ⟩ (Ex.then (fun s' => awp P H O b s' Q) Q) := rfl
theorem awp_cond (c : Operand) (a b : Code) : awp P H O (.cond c a b) ⟨e, σ⟩ Q = onBool (St.ev ⟨e, σ⟩ c) fun t => ifB t (awp P H O a ⟨e, σ⟩ Q) (awp P H O b ⟨e, σ⟩ Q) := rfl
theorem awp_block (id : Nat) (c : Code) : awp P H O (.block id c) ⟨e, σ⟩ Q = awp P H O c ⟨e, σ⟩ (Ex.block id Q) := rfl
theorem awp_loop (c : Code) : awp P H O (.loop c) ⟨e, σ⟩ Q = LoopE (awp P H O c) ⟨e, σ⟩ Q := rfl
theorem awp_exit (id : Nat) (s : St) : awp P H O (.exit id) s Q = Q (.exit id) s := rfl
theorem awp_ret (s : St) : awp P H O .ret s Q = Q .ret s := rfl
theorem then_normal (x : St → Prop) (s : St) : Ex.then x Q .normal s = x s := rfl
theorem then_exit (x : St → Prop) (i : Nat) (s : St) : Ex.then x Q (.exit i) s = Q (.exit i) s := rfl
theorem then_ret (x : St → Prop) (s : St) : Ex.then x Q .ret s = Q .ret s := rfl
theorem block_exit (id i : Nat) (s : St) : Ex.block id Q (.exit i) s = sel (i == id) (Q .normal s) (Q (.exit i) s) := rfl
theorem block_normal (id : Nat) (s : St) : Ex.block id Q .normal s = Q .normal s := rfl
theorem block_ret (id : Nat) (s : St) : Ex.block id Q .ret s = Q .ret s := rfl
theorem stripL_nil (all : Array Oper) : stripL all [] = [] := rfl
theorem stripL_cons (all : Array Oper) (d : Option Tmp) (o : Op) (t : TypeId) (p : String) (a : Array Edge) (g : Option (Nat × Bool)) (l : List Oper) : stripL all (⟨d, o, t, p, a, g⟩ :: l) = ⟨d, o, gOf all g⟩ :: stripL all l := rfl
theorem gOf_none (all : Array Oper) : gOf all none = none := rfl
theorem gOf_some (all : List Oper) (j : Nat) (w : Bool) : gOf all.toArray (some (j, w)) = some (dstO (all[j]?), w) := by simp [gOf]
theorem dstO_mk (d : Option Tmp) (o : Op) (t : TypeId) (p : String) (a : Array Edge) (g : Option (Nat × Bool)) : dstO (some ⟨d, o, t, p, a, g⟩) = d := rfl
theorem opsE_nil (s : St) : opsE P H [] s K = K s := rfl
theorem opsE_none (d : Option Nat) (o : Op) (l : List SOp) : opsE P H (⟨d, o, none⟩ :: l) ⟨e, σ⟩ K = opE P H d o ⟨e, σ⟩ (fun s' => opsE P H l s' K) := rfl
theorem opsE_some (d : Option Nat) (o : Op) (c : Nat) (w : Bool) (l : List SOp) : opsE P H (⟨d, o, some (some c, w)⟩ :: l) ⟨e, σ⟩ K =
    onGd (e c) (fun t => ifB (t == w) (opE P H d o ⟨upd e c (.v (.bool w)), σ⟩ (fun s' => opsE P H l s' K)) (opsE P H l (St.put ⟨upd e c (.v (.bool !w)), σ⟩ d (.tup [])) K)) (opsE P H l (St.put ⟨e, σ⟩ d (.tup [])) K) := rfl
theorem put_some (d : Nat) (a : AV) : St.put ⟨e, σ⟩ (some d) a = ⟨upd e d a, σ⟩ := rfl
theorem put_none (s : St) (a : AV) : St.put s none a = s := rfl
theorem new_mk (d : Nat) (ob : OB) (a : AV) : St.new ⟨e, σ⟩ d ob a = ⟨upd (killE e [[d]] [[d]]) d a, updS (killS σ [[d]] [[d]]) [d] ob⟩ := rfl
theorem chg_mk (I J : List Id) : St.chg ⟨e, σ⟩ I J = ⟨killE e I J, killS σ I J⟩ := rfl
theorem obj_mk (id : Id) (ob : OB) : St.obj ⟨e, σ⟩ id ob = ⟨e, updS σ id ob⟩ := rfl
theorem ret_some (d : Nat) (r : AV) : St.ret ⟨e, σ⟩ (some d) r = ⟨upd (killE e [[d]] [[d]]) d (opnA d r).1, updL (killS σ [[d]] [[d]]) (opnA d r).2⟩ := rfl
theorem retQ_ret (rs : List ResultVar) (ts : List TypeId) (post : AV → Prop) (s : St) : RetQ P rs ts post .ret s = retE P rs ts s post := rfl
theorem retM_mk (ps : List PA) (as : List AV) (d : Option Nat) (r : AV) (rs : List AV) : St.retM ⟨e, σ⟩ ps as d r rs = St.ret ⟨killE e (St.dead ⟨e, σ⟩ ps as rs ++ chN ps as) (St.roots ⟨e, σ⟩ ps as ++ chN ps as), updL (killS σ (St.dead ⟨e, σ⟩ ps as rs ++ chN ps as) (St.roots ⟨e, σ⟩ ps as ++ chN ps as)) (St.backs ⟨e, σ⟩ ps as rs)⟩ d r := rfl
theorem retQM_normal (rs : List ResultVar) (ts pts : List TypeId) (vals : Nat → Value) (ps : List PA) (post : AV → List AV → Prop) (s : St) : RetQM P rs ts pts vals ps post .normal s = retEM P rs ts pts vals ps s post := rfl
theorem retQM_ret (rs : List ResultVar) (ts pts : List TypeId) (vals : Nat → Value) (ps : List PA) (post : AV → List AV → Prop) (s : St) : RetQM P rs ts pts vals ps post .ret s = retEM P rs ts pts vals ps s post := rfl
theorem ev_tmp (t : Nat) : St.ev ⟨e, σ⟩ (.tmp t) = e t := rfl
theorem ev_const (v : Value) : St.ev ⟨e, σ⟩ (.const v) = constAV v := rfl
theorem constAV_int (k : IntKind) (n : Int) : constAV (.int k n) = .v (.int k n) := rfl
theorem constAV_bool (b : Bool) : constAV (.bool b) = .v (.bool b) := rfl
theorem constAV_slice (a : Option Addr) (n c : Nat) : constAV (.slice a n c) = .v (.slice a n c) := rfl
theorem sl_rd (o : Org) (x sz sz' : Nat) (els : List (List AV)) (s : St) : s.sl sz (.rd o x sz' els) = sel (sz' == sz) (some (o, els)) none := rfl
theorem sl_ref (id : Id) (sz : Nat) : St.sl ⟨e, σ⟩ sz (.ref id) = rowOf sz (.obj id) (σ id) := rfl
theorem sl_nil (sz : Nat) (s : St) : s.sl sz (.v (.slice none 0 0)) = some (.ent, []) := rfl
theorem rowOf_row (sz : Nat) (r : Org) (x sz' : Nat) (els : List (List AV)) : rowOf sz r (some (.row x sz' els)) = sel (sz' == sz) (some (r, els)) none := rfl
-- operations
theorem opE_move (d : Option Nat) (x : Operand) : opE P H d (.move x) ⟨e, σ⟩ K = K (St.put ⟨e, σ⟩ d (St.ev ⟨e, σ⟩ x)) := rfl
theorem opE_asg_nil (d : Nat) : opE P H (some d) (.assign (.const (.slice none 0 0))) ⟨e, σ⟩ K = sel (H d == 0) (K (St.put ⟨e, σ⟩ (some d) (.v (.slice none 0 0)))) (onSome (elTy P (H d - 100)) fun t => K (St.new ⟨e, σ⟩ d (.row t.1 t.2.1 []) (.ref [d]))) := rfl
theorem opE_asg_tmp (d : Option Nat) (t : Nat) : opE P H d (.assign (.tmp t)) ⟨e, σ⟩ K = K (St.put ⟨e, σ⟩ d (St.ev ⟨e, σ⟩ (.tmp t))) := by cases d <;> rfl
theorem opE_asg_int (d : Option Nat) (k : IntKind) (x : Int) : opE P H d (.assign (.const (.int k x))) ⟨e, σ⟩ K = K (St.put ⟨e, σ⟩ d (St.ev ⟨e, σ⟩ (.const (.int k x)))) := by cases d <;> rfl
theorem opE_asg_bool (d : Option Nat) (x : Bool) : opE P H d (.assign (.const (.bool x))) ⟨e, σ⟩ K = K (St.put ⟨e, σ⟩ d (St.ev ⟨e, σ⟩ (.const (.bool x)))) := by cases d <;> rfl
theorem opE_asg_ptr (d : Option Nat) (x : Option Addr) : opE P H d (.assign (.const (.pointer x))) ⟨e, σ⟩ K = K (St.put ⟨e, σ⟩ d (St.ev ⟨e, σ⟩ (.const (.pointer x)))) := by cases d <;> rfl
theorem hint_nil (d : Nat) : hint [] d = 0 := rfl
theorem hint_cons (k v : Nat) (l : List (Nat × Nat)) (d : Nat) : hint ((k, v) :: l) d = sel (d == k) v (hint l d) := rfl
theorem opE_pick (d : Option Nat) (c a b : Operand) : opE P H d (.pick c a b) ⟨e, σ⟩ K = onBool (St.ev ⟨e, σ⟩ c) fun t => ifB t (K (St.put ⟨e, σ⟩ d (St.ev ⟨e, σ⟩ a))) (K (St.put ⟨e, σ⟩ d (St.ev ⟨e, σ⟩ b))) := rfl
theorem opE_bin (d : Option Nat) (op : BinOp) (t u : TypeId) (x y : Operand) : opE P H d (.binOp op t x y u) ⟨e, σ⟩ K = binT P t σ op (St.ev ⟨e, σ⟩ x) (St.ev ⟨e, σ⟩ y) fun u => K (St.put ⟨e, σ⟩ d (.v u)) := rfl
theorem opE_un (d : Option Nat) (op : UnOp) (t : TypeId) (x : Operand) : opE P H d (.unOp op t x) ⟨e, σ⟩ K = unE op (St.ev ⟨e, σ⟩ x) fun u => K (St.put ⟨e, σ⟩ d (.v u)) := rfl
def cvE (s : St) (d : Option Nat) (x : Operand) (K : St → Prop) : Cv → Prop
  | .int k => onInt (s.ev x) fun n => K (s.put d (.v (.int k (k.wrap n))))
  | .bytes => onSome (s.sl 1 (s.ev x)) fun y => onBytes y.2 fun bs => K (s.put d (.v (.string ⟨bs.toArray⟩)))
  | .str => onRef (s.ev x) (fun _ => False) (fun b => K (s.put d (.v (.string b)))) (fun _ => False)
  | .same => onRef (s.ev x) (fun id => onOB (s.σ id) (fun u sz els => ask (sz = 1 ∧ 0 < els.length) (K (((s.chg [] [id]).obj id (.row u sz els)).put d (.ref id)))) (fun _ _ => False)) (fun _ => False) (fun _ => False)
  | .ofs e => onSome d fun q => onRef (s.ev x) (fun _ => False) (fun b => ask (b.size ≤ 140737488355328) (K (s.new q (.row e 1 (strEls b)) (.ref [q])))) (fun _ => False)
theorem opE_convert (d : Option Nat) (t u : TypeId) (x : Operand) : opE P H d (.convert t u x) ⟨e, σ⟩ K = onSome (cvTy P t u) (cvE ⟨e, σ⟩ d x K) := by
  show onSome _ _ = onSome _ _
  congr 1
theorem cvE_int (k : IntKind) (d : Option Nat) (x : Operand) : cvE ⟨e, σ⟩ d x K (.int k) = onInt (St.ev ⟨e, σ⟩ x) fun n => K (St.put ⟨e, σ⟩ d (.v (.int k (k.wrap n)))) := rfl
theorem cvE_bytes (d : Option Nat) (x : Operand) : cvE ⟨e, σ⟩ d x K .bytes = onSome (St.sl ⟨e, σ⟩ 1 (St.ev ⟨e, σ⟩ x)) fun y => onBytes y.2 fun bs => K (St.put ⟨e, σ⟩ d (.v (.string ⟨bs.toArray⟩))) := rfl
theorem opE_indexAddr (d : Option Nat) (T : TypeId) (x i : Operand) : opE P H d (.indexAddr T x i) ⟨e, σ⟩ K = onSome (ixTy P T) (ixE ⟨e, σ⟩ d x i K) := rfl
theorem ixE_sl (d : Option Nat) (x i : Operand) (t : Nat × Nat × Nat) : ixE ⟨e, σ⟩ d x i K (.sl t) = onInt (St.ev ⟨e, σ⟩ i) fun n => onRef (St.ev ⟨e, σ⟩ x)
      (fun id => onSome (St.sl ⟨e, σ⟩ t.2.1 (.ref id)) fun y => ask (0 ≤ n ∧ n < y.2.length) (K (St.put ⟨e, σ⟩ d (.ptr id t.2.1 n.toNat 0))))
      (fun _ => False)
      (fun a => onSome (St.sl ⟨e, σ⟩ t.2.1 a) fun y => ask (0 ≤ n ∧ n < y.2.length) (K (St.put ⟨e, σ⟩ d (.rp y.1 t.1 t.2.1 y.2 n.toNat 0)))) := rfl
theorem ixE_ar (d : Option Nat) (x i : Operand) (m sz : Nat) : ixE ⟨e, σ⟩ d x i K (.ar m sz) = onInt (St.ev ⟨e, σ⟩ i) fun n => ask (0 ≤ n ∧ n < m) (onAdr (St.ev ⟨e, σ⟩ x)
      (fun o u sz' els i k => K (St.put ⟨e, σ⟩ d (.rp o u sz' els i (k + n.toNat * sz)))) (fun id sz' i k => K (St.put ⟨e, σ⟩ d (.ptr id sz' i (k + n.toNat * sz))))) := rfl
theorem opE_build (d : Option Nat) (T : TypeId) (parts : List (Nat × Operand)) : opE P H d (.build T parts.toArray) ⟨e, σ⟩ K = onSome (bldTy P T) fun b => onSome (zeroC P T) fun z => onSome (fillE ⟨e, σ⟩ b z parts) fun cs => K (St.put ⟨e, σ⟩ d (.agg cs)) := rfl
theorem opE_load_some (d : Nat) (T : TypeId) (a : Operand) (h : (H d == 3) = false) : opE P H (some d) (.load T a) ⟨e, σ⟩ K = onSome (tySz P T) fun t => onAdr (St.ev ⟨e, σ⟩ a)
    (fun r _ _ els i k => onSome (els[i]?) fun cs => onSome (cut t.2 t.1 k cs (AV.asrd r)) fun x => K (St.put ⟨e, σ⟩ (some d) x))
    (fun id sz i k => onOB (σ id) (fun _ sz' els => ask (sz' = sz) (onSome (els[i]?) fun cs => onSome (cut t.2 t.1 k cs (sel t.2 (AV.asrd (.obj id)) (AV.asat id sz' i k))) fun x => K (St.put ⟨e, σ⟩ (some d) x)))
      (fun _ cs => ask (i = 0) (onSome (cut t.2 t.1 k cs (fun a => a)) fun x => K (St.put ⟨e, σ⟩ (some d) x)))) := by
  show sel (H d == 3) _ _ = _
  rw [h]; rfl
theorem opE_store (d : Option Nat) (T : TypeId) (a x : Operand) : opE P H d (.store T a x) ⟨e, σ⟩ K = onSome (tySz P T) fun t => withL (St.ev ⟨e, σ⟩ x).cells fun vc => ask (vc.length = t.1) (onAdr (St.ev ⟨e, σ⟩ a)
    (fun _ _ _ _ _ _ => False)
    (fun id sz' i k => onOB (σ id)
      (fun u sz els => onSome (els[i]?) fun cs => onSome (St.clL ⟨e, σ⟩ vc) fun vs => ask (sz = sz' ∧ k + t.1 ≤ cs.length ∧ indep vs.2 = true ∧ hit vs.2 id = false)
        (K (St.put ((St.chg ⟨e, σ⟩ vs.2 (id :: vs.2)).obj id (.row u sz (els.set i (setAt (nilL ((cty P u).drop k) vs.1) k cs)))) d .any)))
      (fun t' cs => ask (i = 0 ∧ k + t.1 ≤ cs.length ∧ vc.all okBox = true)
        (K (St.put ((St.chg ⟨e, σ⟩ [] [id]).obj id (.box t' (setAt (killL [] [id] vc) k (killL [] [id] cs)))) d .any))))) := rfl
theorem opE_fieldAddr (d : Option Nat) (S : TypeId) (x : Operand) (j : Nat) (h : (S == 200) = false) : opE P H d (.fieldAddr S x j) ⟨e, σ⟩ K = onSome (fldTy P S j) fun t => ask (t.2.1 ≠ 0) (onAdr (St.ev ⟨e, σ⟩ x)
    (fun r u sz els i k => K (St.put ⟨e, σ⟩ d (.rp r u sz els i (k + t.1)))) (fun id sz i k => K (St.put ⟨e, σ⟩ d (.ptr id sz i (k + t.1))))) := by
  show sel (S == 200) _ _ = _
  rw [h]; rfl
theorem opE_slice (d : Option Nat) (T : TypeId) (x : Operand) (lo hi : Option Operand) : opE P H d (.slice T x lo hi none) ⟨e, σ⟩ K = onRef (St.ev ⟨e, σ⟩ x)
    (fun id => onSome (elTy P T) fun t => onOB (σ id) (fun u sz els => boundE ⟨e, σ⟩ lo 0 fun l => boundE ⟨e, σ⟩ hi els.length fun h => ask (sz = t.2.1 ∧ 0 ≤ l ∧ l ≤ h ∧ h ≤ els.length)
      (onSome d fun d' => sel (H d' == 1)
        (K (St.put ((St.chg ⟨e, σ⟩ [id] [id]).obj id (.row u sz ((els.take h.toNat).drop l.toNat))) d (.ref id)))
        (K (St.put ⟨e, σ⟩ d (.rd (.obj id) u sz ((els.take h.toNat).drop l.toNat)))))) (fun _ _ => False))
    (fun b => onSome (strTy P T) fun _ => boundE ⟨e, σ⟩ lo 0 fun l => boundE ⟨e, σ⟩ hi b.size fun h => ask (0 ≤ l ∧ l ≤ h ∧ h ≤ b.size) (K (St.put ⟨e, σ⟩ d (.v (.string (b.extract l.toNat h.toNat))))))
    (fun a => onSome (elTy P T) fun t => onSome (St.sl ⟨e, σ⟩ t.2.1 a) fun y => boundE ⟨e, σ⟩ lo 0 fun l => boundE ⟨e, σ⟩ hi y.2.length fun h => ask (0 ≤ l ∧ l ≤ h ∧ h ≤ y.2.length)
      (K (St.put ⟨e, σ⟩ d (slR a (.rd y.1.base t.1 t.2.1 ((y.2.take h.toNat).drop l.toNat)))))) := rfl
theorem boundE_none (s : St) (d : Int) (k : Int → Prop) : boundE s none d k = k d := rfl
theorem boundE_some (x : Operand) (d : Int) (k : Int → Prop) : boundE ⟨e, σ⟩ (some x) d k = onInt (St.ev ⟨e, σ⟩ x) k := rfl
theorem opE_makeSlice (d : Option Nat) (T : TypeId) (n c : Operand) : opE P H d (.makeSlice T n c) ⟨e, σ⟩ K = onSome (elTy P T) fun t => onSome (zeroC P t.1) fun z => onSome d fun d => onInt (St.ev ⟨e, σ⟩ n) fun n => onInt (St.ev ⟨e, σ⟩ c) fun c =>
      ask (0 ≤ n ∧ n ≤ c ∧ c * t.2.2 ≤ 140737488355328 ∧ 0 < t.2.2) (K (St.new ⟨e, σ⟩ d (.row t.1 t.2.1 (List.replicate n.toNat (nilL (cty P t.1) z))) (.ref [d]))) := rfl
theorem opE_buildSlice (d : Option Nat) (T : TypeId) (len : Nat) (parts : List (Nat × Operand)) : opE P H d (.buildSlice T len parts.toArray) ⟨e, σ⟩ K = onSome (elTy P T) fun t => onSome d fun d => onSome (partsOf ⟨e, σ⟩ 0 parts) fun els => onSome (zeroC P t.1) fun _ => ask (els.length = len ∧ 0 < t.2.1 ∧ len * t.2.1 ≤ 16777216) (onSome (St.clE ⟨e, σ⟩ t.2.1 (cty P t.1) els) fun y =>
      ask (indep y.2 = true) (sel (H d == 0) (K (((St.chg ⟨e, σ⟩ ([d] :: y.2) ([d] :: y.2)).obj [d] (.row t.1 t.2.1 y.1)).put (some d) (.ref [d])))
        (onRef (e (H (d + 500000))) (fun id => onSome (relOf id (els[H d - 1000]?) (y.1[H d - 1000]?)) fun r => ask (t.2.1 = 1 ∧ H (d + 500000) ≠ d)
          (K ((((St.chg ⟨e, σ⟩ ([d] :: y.2) ([d] :: y.2)).obj [d] (.row t.1 t.2.1 y.1)).put (some d) (.ref [d])).put (some (H (d + 500000))) (.rd (.at [d] t.2.1 (H d - 1000) 0) r.1 r.2.1 r.2.2)))) (fun _ => False) (fun _ => False)))) := rfl
theorem opE_box (d : Option Nat) (t : TypeId) (x : Operand) : opE P H d (.box t x) ⟨e, σ⟩ K = onSome (tySz P t) fun y => onSome d fun d => withL (St.ev ⟨e, σ⟩ x).cells fun vc => ask (vc.length = y.1 ∧ vc.all okBox = true) (K (St.new ⟨e, σ⟩ d (.box t (killL [[d]] [[d]] vc)) (.ptr [d] 0 0 0))) := rfl
theorem opE_alloc (d : Option Nat) (t : TypeId) : opE P H d (.alloc t) ⟨e, σ⟩ K = onSome (zeroC P t) fun z => onSome d fun d => K (St.new ⟨e, σ⟩ d (.box t z) (.ptr [d] 0 0 0)) := rfl
theorem opE_nilCheck (d : Option Nat) (x : Operand) : opE P H d (.nilCheck x) ⟨e, σ⟩ K = onMth (St.ev ⟨e, σ⟩ x) (fun nm t => onSome (methF P t nm) fun _ => K (St.put ⟨e, σ⟩ d (St.ev ⟨e, σ⟩ x))) (onAdr (St.ev ⟨e, σ⟩ x) (fun r u sz els i k => K (St.put ⟨e, σ⟩ d (.rp r u sz els i k))) (fun id sz i k => K (St.put ⟨e, σ⟩ d (.ptr id sz i k)))) := rfl
theorem opE_extract (d : Option Nat) (x : Operand) (k : Nat) : opE P H d (.extract x k) ⟨e, σ⟩ K = onTup (St.ev ⟨e, σ⟩ x) fun cs => onSome (cs[k]?) fun c => K (St.put ⟨e, σ⟩ d c) := rfl
theorem opE_call (d : Option Nat) (c : Call) : opE P H d (.call c) ⟨e, σ⟩ K = callOp P H d c ⟨e, σ⟩ K := rfl
theorem callOp_tmp (d : Option Nat) (t : Nat) (as : List Operand) (ts : Array TypeId) : callOp P H d ⟨.value (.tmp t), as.toArray, ts⟩ ⟨e, σ⟩ K = onFn (e t) fun f cs => CallV P f (List.map (St.ev ⟨e, σ⟩) as) cs ⟨e, σ⟩ d K := rfl
theorem opE_makeFunc (d : Option Nat) (f : Nat) (caps : List Operand) : opE P H d (.makeFunc (.func f) #[] caps.toArray) ⟨e, σ⟩ K = K (St.put ⟨e, σ⟩ d (.fn f (List.map (St.ev ⟨e, σ⟩) caps))) := rfl
theorem callOp_func (d : Option Nat) (f : Nat) (as : List Operand) (ts : Array TypeId) : callOp P H d ⟨.value (.func f), as.toArray, ts⟩ ⟨e, σ⟩ K = CallE P H f (List.map (St.ev ⟨e, σ⟩) as) ⟨e, σ⟩ d K := rfl
theorem callOp_len (d : Option Nat) (x : Operand) (T : TypeId) : callOp P H d ⟨.builtin .len, #[x], #[T]⟩ ⟨e, σ⟩ K =
    onRef (St.ev ⟨e, σ⟩ x) (fun id => onRL (σ id) (fun els => onSome (elTy P T) fun _ => K (St.put ⟨e, σ⟩ d (.v (.int .i64 els.length)))) (fun l => onSome (mapTy P T) fun _ => K (St.put ⟨e, σ⟩ d (.v (.int .i64 l.length))))) (fun b => onSome (strTy P T) fun _ => K (St.put ⟨e, σ⟩ d (.v (.int .i64 b.size))))
      (fun a => onSome (elTy P T) fun t => onSome (St.sl ⟨e, σ⟩ t.2.1 a) fun y => K (St.put ⟨e, σ⟩ d (.v (.int .i64 y.2.length)))) := rfl
theorem callOp_cap (d : Option Nat) (x : Operand) (T : TypeId) : callOp P H d ⟨.builtin .cap, #[x], #[T]⟩ ⟨e, σ⟩ K = onSome (elTy P T) fun _ => onNil (St.ev ⟨e, σ⟩ x) (K (St.put ⟨e, σ⟩ d (.v (.int .i64 0)))) := rfl
theorem callOp_append (d : Option Nat) (x y : Operand) (T T' : TypeId) : callOp P H d ⟨.builtin .append, #[x, y], #[T, T']⟩ ⟨e, σ⟩ K = onZ (St.ev ⟨e, σ⟩ y)
    (fun n => onSome (intTy P T') fun _ => onSome (elTy P T) fun t => onSome (zeroC P t.1) fun z => onSome d fun d => onNil (St.ev ⟨e, σ⟩ x) (ask (0 < n ∧ n * t.2.2 ≤ 140737488355328 ∧ 0 < t.2.2 ∧ 0 < t.2.1) (K (St.new ⟨e, σ⟩ d (.row t.1 t.2.1 (List.replicate n.toNat (nilL (cty P t.1) z))) (.ref [d])))))
    (fun _ =>
    onSome d fun d => onSome (elTy P T') fun _ => onSome (elTy P T) fun t => onSome (zeroC P t.1) fun _ => onSome (St.sl ⟨e, σ⟩ t.2.1 (St.ev ⟨e, σ⟩ y)) fun ys => onSome (appBase ⟨e, σ⟩ d t.1 t.2.1 (St.ev ⟨e, σ⟩ x)) fun xs =>
      ask ((xs.2.length + ys.2.length) * t.2.2 ≤ 140737488355328 ∧ 0 < t.2.2)
        (onRef (St.ev ⟨e, σ⟩ y)
          (fun id' => sel (H d == 2)
            (ask (flatE ys.2 ∧ hit [id'] xs.1 = false) (K (St.put ((St.chg ⟨e, σ⟩ [xs.1] [xs.1]).obj xs.1 (.row t.1 t.2.1 (xs.2 ++ ys.2))) (some d) (.ref xs.1))))
            (ask (hit [id'] xs.1 = false) (K (St.put ((St.chg ⟨e, σ⟩ [xs.1, id'] [xs.1, id']).obj xs.1 (.row t.1 t.2.1 (xs.2 ++ ys.2))) (some d) (.ref xs.1)))))
          (fun _ => False)
          (fun _ => sel (isObj ys.1)
            (ask (flatE ys.2 ∧ killO [xs.1] ys.1 = false) (K (St.put ((St.chg ⟨e, σ⟩ [xs.1] [xs.1]).obj xs.1 (.row t.1 t.2.1 (xs.2 ++ ys.2))) (some d) (.ref xs.1))))
            (K (St.put ((St.chg ⟨e, σ⟩ [xs.1] [xs.1]).obj xs.1 (.row t.1 t.2.1 (xs.2 ++ ys.2.map (List.map (AV.asrw ys.1))))) (some d) (.ref xs.1)))))) := rfl
theorem callOp_min (d : Option Nat) (x y : Operand) (ts : Array TypeId) : callOp P H d ⟨.builtin .min, #[x, y], ts⟩ ⟨e, σ⟩ K =
    binE .lss (St.ev ⟨e, σ⟩ y) (St.ev ⟨e, σ⟩ x) fun u => match u with | .bool t => sel t (K (St.put ⟨e, σ⟩ d (St.ev ⟨e, σ⟩ y))) (K (St.put ⟨e, σ⟩ d (St.ev ⟨e, σ⟩ x))) | _ => False := rfl
theorem appBase_ref (d u sz : Nat) (id : Id) : appBase ⟨e, σ⟩ d u sz (.ref id) = match σ id with
    | some (.row e' sz' xs) => sel (e' == u && sz' == sz) (some (id, xs)) none
    | _ => none := rfl
theorem appBase_nil (s : St) (d u sz : Nat) : appBase s d u sz (.v (.slice none 0 0)) = some ([d], []) := rfl
end
attribute [go_sem ↓] onSome_lz bindO_lz ifB_lz binE_lz binT_lz nilE_lz unE_lz onBool_lz onGd_lz onInt_lz onAdr_lz onOB_lz onRL_lz onZ_lz onNil_lz onRef_lz onTup_lz onFn_lz onMth_lz onBytes_lz
attribute [go_sem] onBytes'_bytes List.getElem?_cons_zero List.getElem?_cons_succ List.getElem?_nil List.map_cons List.map_nil List.length_cons List.length_nil List.drop_succ_cons List.take_succ_cons List.drop_zero List.take_zero List.drop_nil List.take_nil List.all_cons List.all_nil List.any_cons List.any_nil List.cons_beq_cons beq_self_eq_true Bool.and_true Bool.true_and Bool.and_false Bool.false_and Bool.or_false Bool.or_true Bool.false_or Bool.true_or Bool.not_true Bool.not_false List.isPrefixOf_cons₂ List.isPrefixOf_nil_left List.nil_append List.cons_append List.append_nil awp_skip awp_region awp_draw regE_nil regE_cons opsD_nil opsD_cons isU_eq opsM_nil opsM_cons isY_eq selL_true selL_false isX_eq onOp_some rmD_nil rmD_cons anys_nil anys_cons ask_assoc hBl_get consO_some opsAt_nil opsAt_cons awp_seq awp_cond awp_block awp_loop awp_exit awp_ret then_normal then_exit then_ret block_exit block_normal block_ret stripL_nil stripL_cons gOf_none gOf_some dstO_mk opsE_nil opsE_none opsE_some put_some put_none new_mk chg_mk obj_mk ret_some retQ_ret ev_tmp ev_const constAV_int constAV_bool constAV_slice sl_rd sl_ref sl_nil rowOf_row opE_move opE_asg_nil opE_asg_tmp opE_asg_int opE_asg_bool opE_asg_ptr hint_nil hint_cons opE_pick opE_bin opE_un opE_convert cvE_int cvE_bytes opE_indexAddr ixE_sl ixE_ar opE_build fillE okCells Bld.at opE_load_some opE_store opE_fieldAddr opE_slice boundE_none boundE_some opE_makeSlice opE_buildSlice opE_box opE_alloc mapAns MapKept.IsKey opE_nilCheck opE_extract opE_call opE_makeFunc onMth'_ptr callOp_tmp callOp_func callOp_len callOp_cap callOp_append onRL'_row onZ'_int onZ'_ref onZ'_rd onNil'_nil slR_v slR_rd callOp_min appBase_ref appBase_nil onSome'_some bindO'_some bindO'_none ifB'_true ifB'_false ifB'_not ifB'_eqt ifB'_eqf sel_true sel_false true_and and_true Int.toNat_natCast List.headD_cons upd_get killE_get updS_get killS_get mapOB_some mapOB_none binE'_int binT'_rd binT'_int binT'_str boolE nilCmp nil0 intE strE unE'_not unE'_xor onBool'_v onGd'_v onGd'_no onInt'_v onAdr'_rp onAdr'_ptr onOB'_row onOB'_box onRef'_ref onRef'_rd onRef'_nil onTup'_tup onFn'_fn ask_true withL AV.kill killL killO OB.kill hit cmp indep isObj AV.asrd asrdL AV.asrw asrwL Org.base AV.asat AV.clB clBL AV.cells nilC nilL nilA okBox oneB ownRow St.clC St.clL St.clE cut setAt partsOf coeRow St.coe St.coeL coeBox St.coeK St.coeKL St.coeA lendC lendL lendA argsE frzO frzR St.frzC St.frzL St.frzA St.frzE opnC opnCs opnB opnL opnA updL boxOf ptrBox retA St.clA St.clAs nilAs tupOf retE asrdA initE initS St.init Nat.le_refl Nat.zero_add List.length_map List.length_range List.length_replicate List.length_set ne_eq not_false_eq_true retM_mk retQM_normal retQM_ret backAt cellAt setCellAt boxTC shapeOf St.givC St.givL St.givA rootC rootL rootB St.rootA St.roots ptrs chN rrootA rroots apartB apC apL apBox St.apK St.apKL St.apA pargE bkC bkL bkA St.backs deadC deadL St.deadA St.dead initEM objsM St.initM pinOf pinV pinsE rowT St.clTC St.clTL boxT St.clT St.clTs retEM getO Option.bind_some
end Go.Ev
