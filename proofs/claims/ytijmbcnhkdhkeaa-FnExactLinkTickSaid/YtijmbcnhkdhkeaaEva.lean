/- The evaluator, part 1: values by shape, what memory says of them, and that what is not touched stays. -/
import Derived.Below
import Derived.Deep.Draws
import Derived.Deep.LoopGhost
import Derived.StillTail
import Derived.MapKept
set_option linter.unusedVariables false
set_option linter.unusedSimpArgs false
namespace Go.Ev
open Go Go.RowKit

/-- The name of an object of the call's own: the slot that made it, and which part of what was made. -/
abbrev Id := List Nat

/-- Where what is read lies: in what came in, in what nobody writes any more, in an object of the call's own. -/
inductive Org where
  | ent
  | frz
  | obj (id : Id)
  | at (id : Id) (sz i k : Nat)
  deriving DecidableEq

/-- A value by its shape. A row's elements are lists of cells. -/
inductive AV where
  | any
  | v (u : Value)
  | row (e sz : Nat) (els : List (List AV))
  | rd (o : Org) (e sz : Nat) (els : List (List AV))
  | rp (o : Org) (e sz : Nat) (els : List (List AV)) (i k : Nat)
  | ref (id : Id)
  | ptr (id : Id) (sz i k : Nat)
  | agg (cs : List AV)
  | tup (cs : List AV)
  | bx (t : Nat) (cs : List AV)
  | ifc (t : Nat) (a : AV)
  | fn (f : Nat) (cs : List AV)

/-- The mode in which a row inside is meant: owned, at a path; or read. -/
inductive Md where
  | own (p : Id)
  | read (o : Org)

def Md.sub (q : Nat) : Md → Md
  | .own p => .own (p ++ [q])
  | .read o => .read o

structure Cx where
  w : World
  ent : Nat → Prop
  frz : Nat → Prop
  L : Nat → Option Id
  m : Id → Value
  live : Id → Prop

def Cx.alive (C : Cx) : Org → Prop
  | .obj id => C.live id
  | .at id _ _ _ => C.live id
  | _ => True
def Cx.st (C : Cx) : Org → Nat → Prop
  | .ent, b => C.ent b
  | .frz, b => C.frz b
  | .obj id, b => ∃ q, C.L b = some (id ++ q)
  | .at id _ _ _, b => ∃ q, C.L b = some (id ++ q)

def one : Value → Prop
  | .agg _ => False
  | .tuple _ => False
  | _ => True

def isObj : Org → Bool
  | .obj _ => true
  | .at _ _ _ _ => true
  | _ => false

/-- How many elements a row may have. -/
def BIG : Nat := 140737488355328
theorem BIG_eq : BIG = 140737488355328 := rfl

def unfrozen (fr : Nat × Nat) (o n : Nat) : Prop := ∀ i, i < n → ¬ (fr.1 ≤ o + i ∧ o + i < fr.2)

def hdrAddr : Value → Option Addr
  | .pointer a => a
  | .slice a _ _ => a
  | _ => none
/-- A slice of which it is known in which cell of an object it stands. -/
def Cx.hdr (C : Cx) : Org → Value → Prop
  | .at id sz i k, x => ∃ g off, hdrAddr (C.m id) = some ⟨g, off, none⟩ ∧ C.L g = some id ∧ C.w.cell? ⟨g, off + (i * sz + k), none⟩ = some x
  | _, _ => True
theorem Cx.hdr_of {C : Cx} {x : Value} : ∀ {o : Org}, isObj o = false → C.hdr o x
  | .ent, _ => trivial
  | .frz, _ => trivial
  | .obj _, _ => trivial
  | .at _ _ _ _, h => by cases h

mutual
/-- Value x is what the shape says; 'cl': no object of the call's own is named in it. -/
def Rep (C : Cx) (cl : Bool) (md : Md) : AV → Value → Prop
  | .any, _ => True
  | .v u, x => x = u ∧ one u
  | .row e sz els, x =>
    match md with
    | .read o => C.alive o ∧ ∃ A c, x = .slice A els.length c ∧ els.length ≤ c ∧ els.length ≤ BIG ∧ (els = [] ∨ ∃ b off, A = some ⟨b, off, none⟩ ∧ C.st o b ∧ RepEls C (.read o) b off 0 sz els)
    | .own p => ∃ A c, x = .slice A els.length c ∧ ((els = [] ∧ A = none ∧ c = 0) ∨
        ∃ g off arr fr q, A = some ⟨g, off, none⟩ ∧ C.L g = some p ∧ C.w.heap[g]? = some (.cells arr e fr) ∧ els.length ≤ c ∧ off + c * sz ≤ arr.size ∧ unfrozen fr off (c * sz) ∧ els.length ≤ BIG ∧
          RepEls C (.own p) g off q sz els)
  | .rd o _ sz els, x => (isObj o && cl) = false ∧ (C.alive o ∧ C.hdr o x) ∧ ∃ A c, x = .slice A els.length c ∧ els.length ≤ c ∧ els.length ≤ BIG ∧ (els = [] ∨ ∃ b off, A = some ⟨b, off, none⟩ ∧ C.st o b ∧ RepEls C (.read o) b off 0 sz els)
  | .rp o _ sz els i k, x => cl = false ∧ C.alive o ∧ ∃ b off, x = .pointer (some ⟨b, off + i * sz + k, none⟩) ∧ C.st o b ∧ RepEls C (.read o) b off 0 sz els
  | .ref id, x => cl = false ∧ one x ∧ C.live id ∧ x = C.m id
  | .ptr id sz i k, x => cl = false ∧ C.live id ∧ ∃ g off, hdrAddr (C.m id) = some ⟨g, off, none⟩ ∧ x = .pointer (some ⟨g, off + i * sz + k, none⟩)
  | .agg cs, x => ∃ vs, x = .agg vs ∧ RepVs C cl md 0 cs vs.toList
  | .tup cs, x => ∃ vs, x = .tuple vs ∧ RepVs C cl md 0 cs vs.toList
  | .bx t cs, x =>
    match md with
    | .read o => C.alive o ∧ ∃ g off, x = .pointer (some ⟨g, off, none⟩) ∧ C.st o g ∧ RepCs C true (.read o) g off 0 cs
    | .own p => ∃ g arr, x = .pointer (some ⟨g, 0, none⟩) ∧ C.L g = some (p ++ [0]) ∧ C.w.heap[g]? = some (.cells arr t (0, 0)) ∧ arr.size = cs.length ∧ RepCs C true (.own (p ++ [1])) g 0 0 cs
  | .ifc t a, x => ∃ v, x = .iface t v ∧ Rep C cl md a v
  | .fn f cs, x => ∃ vs, x = .func (.func f) #[] vs ∧ RepVs C cl md 0 cs vs.toList
/-- Values side by side. -/
def RepVs (C : Cx) (cl : Bool) (md : Md) (q : Nat) : List AV → List Value → Prop
  | [], vs => vs = []
  | c :: cs, vs => ∃ y ys, vs = y :: ys ∧ Rep C cl (md.sub q) c y ∧ RepVs C cl md (q + 1) cs ys
/-- Cells in memory, from offset off of block b on. -/
def RepCs (C : Cx) (cl : Bool) (md : Md) (b off q : Nat) : List AV → Prop
  | [] => True
  | c :: cs => (∃ y, C.w.cell? ⟨b, off, none⟩ = some y ∧ one y ∧ Rep C cl (md.sub q) c y) ∧ RepCs C cl md b (off + 1) (q + 1) cs
/-- Elements in memory: the first is at off. -/
def RepEls (C : Cx) (md : Md) (b off q sz : Nat) : List (List AV) → Prop
  | [] => True
  | e :: es => e.length = sz ∧ RepCs C true md b off q e ∧ RepEls C md b (off + sz) (q + sz) sz es
end

/-- From mode md of C to mode md' of C': what must stay. -/
def Tr (C C' : Cx) : Md → Md → Prop
  | .own p, .own p' => ∀ b q, C.L b = some (p ++ q) → C'.L b = some (p' ++ q) ∧ C'.w.heap[b]? = C.w.heap[b]?
  | .own p, .read o => C'.alive o ∧ ∀ b q, C.L b = some (p ++ q) → C'.st o b ∧ C'.w.heap[b]? = C.w.heap[b]?
  | .read o, .read o' => (C.alive o → C'.alive o') ∧ ∀ b, C.st o b → C'.st o' b ∧ C'.w.heap[b]? = C.w.heap[b]?
  | .read _, .own _ => False
/-- What must stay for what is read. -/
structure Stays (C C' : Cx) : Prop where
  ent : ∀ b, C.ent b → C'.ent b ∧ C'.w.heap[b]? = C.w.heap[b]?
  frz : ∀ b, C.frz b → C'.frz b ∧ C'.w.heap[b]? = C.w.heap[b]?

theorem Tr.sub {C C' : Cx} {md md' : Md} (h : Tr C C' md md') (q : Nat) : Tr C C' (md.sub q) (md'.sub q) := by
  cases md with
  | own p =>
    cases md' with
    | own p' => intro b r hb; rw [List.append_assoc] at hb ⊢; exact h b _ hb
    | read o => exact ⟨h.1, fun b r hb => by rw [List.append_assoc] at hb; exact h.2 b _ hb⟩
  | read o =>
    cases md' with
    | own p' => exact h
    | read o' => exact h
theorem Stays.org {C C' : Cx} (h : Stays C C') : ∀ o, isObj o = false → Tr C C' (.read o) (.read o)
  | .ent, _ => ⟨id, fun b hb => h.ent b hb⟩
  | .frz, _ => ⟨id, fun b hb => h.frz b hb⟩
  | .obj _, h' => by cases h'
  | .at _ _ _ _, h' => by cases h'

def Md.isRead : Md → Bool
  | .read _ => true
  | .own _ => false
theorem Md.sub_eq {md : Md} {q q' : Nat} (h : md.isRead = true ∨ q' = q) : md.sub q' = md.sub q := by
  rcases h with h | rfl
  · cases md with
    | own p => cases h
    | read o => rfl
  · rfl

theorem cell_same {w w' : World} {b : Nat} (h : w'.heap[b]? = w.heap[b]?) (o : Nat) : w'.cell? ⟨b, o, none⟩ = w.cell? ⟨b, o, none⟩ := by
  unfold World.cell?; rw [h]

mutual
theorem Rep.tr {C C' : Cx} (hs : Stays C C') {md md' : Md} (hm : Tr C C' md md') : ∀ (a : AV) (x : Value), Rep C true md a x → Rep C' true md' a x
  | .any, _, _ => trivial
  | .v u, x, h => h
  | .row e sz els, x, h => by
    cases md with
    | read o =>
      cases md' with
      | own p' => exact hm.elim
      | read o' =>
        obtain ⟨ha, A, c, rfl, h1, h2, h3⟩ := h
        refine ⟨hm.1 ha, A, c, rfl, h1, h2, ?_⟩
        rcases h3 with h3 | ⟨b, off, rfl, hb, hr⟩
        · exact .inl h3
        · have := hm.2 b hb
          exact .inr ⟨b, off, rfl, this.1, RepEls.tr hs hm els this.2 (.inr rfl) hr⟩
    | own p =>
      obtain ⟨A, c, rfl, h⟩ := h
      cases md' with
      | own p' =>
        refine ⟨A, c, rfl, ?_⟩
        rcases h with h | ⟨g, off, arr, fr, q, rfl, hL, hh, h1, h2, h3, h4, h5⟩
        · exact .inl h
        · have := hm g [] (by simpa using hL)
          exact .inr ⟨g, off, arr, fr, q, rfl, by simpa using this.1, this.2.trans hh, h1, h2, h3, h4, RepEls.tr hs hm els this.2 (.inr rfl) h5⟩
      | read o =>
        refine ⟨hm.1, A, c, rfl, ?_⟩
        rcases h with ⟨rfl, rfl, rfl⟩ | ⟨g, off, arr, fr, q, rfl, hL, hh, h1, h2, h3, h4, h5⟩
        · exact ⟨Nat.le_refl _, Nat.zero_le _, .inl rfl⟩
        · have := hm.2 g [] (by simpa using hL)
          exact ⟨h1, h4, .inr ⟨g, off, rfl, this.1, RepEls.tr hs hm els this.2 (.inl rfl) h5⟩⟩
  | .rd o e sz els, x, h => by
    have ho : isObj o = false := by simpa using h.1
    have hm' := hs.org o ho
    obtain ⟨h0, ⟨ha, _⟩, A, c, rfl, h1, h2, h3⟩ := h
    refine ⟨h0, ⟨hm'.1 ha, Cx.hdr_of ho⟩, A, c, rfl, h1, h2, ?_⟩
    rcases h3 with h3 | ⟨b, off, rfl, hb, hr⟩
    · exact .inl h3
    · have := hm'.2 b hb
      exact .inr ⟨b, off, rfl, this.1, RepEls.tr hs hm' els this.2 (.inr rfl) hr⟩
  | .rp .., x, h => by exact absurd h.1 (by simp)
  | .ref _, x, h => by exact absurd h.1 (by simp)
  | .ptr .., x, h => by exact absurd h.1 (by simp)
  | .agg cs, x, h => by
    obtain ⟨vs, rfl, h⟩ := h
    exact ⟨vs, rfl, RepVs.tr hs hm cs vs.toList 0 h⟩
  | .tup cs, x, h => by
    obtain ⟨vs, rfl, h⟩ := h
    exact ⟨vs, rfl, RepVs.tr hs hm cs vs.toList 0 h⟩
  | .bx t cs, x, h => by
    cases md with
    | read o =>
      cases md' with
      | own p' => exact hm.elim
      | read o' =>
        obtain ⟨ha, g, off, rfl, h1, h2⟩ := h
        have := hm.2 g h1
        exact ⟨hm.1 ha, g, off, rfl, this.1, RepCs.tr hs hm cs this.2 (.inl rfl) h2⟩
    | own p =>
      obtain ⟨g, arr, rfl, h1, h2, h3, h4⟩ := h
      cases md' with
      | own p' =>
        have := hm g [0] h1
        exact ⟨g, arr, rfl, this.1, this.2.trans h2, h3, RepCs.tr hs (Tr.sub hm 1) cs this.2 (.inr rfl) h4⟩
      | read o =>
        have := hm.2 g [0] h1
        exact ⟨hm.1, g, 0, rfl, this.1, RepCs.tr hs (Tr.sub hm 1) cs this.2 (.inl rfl) h4⟩
  | .ifc t a, x, h => by
    obtain ⟨v, rfl, h⟩ := h
    exact ⟨v, rfl, Rep.tr hs hm a v h⟩
  | .fn f cs, x, h => by
    obtain ⟨vs, rfl, h⟩ := h
    exact ⟨vs, rfl, RepVs.tr hs hm cs vs.toList 0 h⟩
theorem RepVs.tr {C C' : Cx} (hs : Stays C C') {md md' : Md} (hm : Tr C C' md md') : ∀ (cs : List AV) (vs : List Value) (q : Nat), RepVs C true md q cs vs → RepVs C' true md' q cs vs
  | [], vs, _, h => h
  | c :: cs, vs, q, h => by
    obtain ⟨y, ys, rfl, h1, h2⟩ := h
    exact ⟨y, ys, rfl, Rep.tr hs (Tr.sub hm q) c y h1, RepVs.tr hs hm cs ys (q + 1) h2⟩
theorem RepCs.tr {C C' : Cx} (hs : Stays C C') {md md' : Md} (hm : Tr C C' md md') : ∀ (cs : List AV) {b : Nat}, C'.w.heap[b]? = C.w.heap[b]? → ∀ {off q q' : Nat}, md'.isRead = true ∨ q' = q → RepCs C true md b off q cs → RepCs C' true md' b off q' cs
  | [], _, _, _, _, _, _, _ => trivial
  | c :: cs, b, hb, off, q, q', hq, h => by
    obtain ⟨⟨y, h1, h2, h3⟩, h4⟩ := h
    exact ⟨⟨y, (cell_same hb off).trans h1, h2, by rw [Md.sub_eq hq]; exact Rep.tr hs (Tr.sub hm q) c y h3⟩, RepCs.tr hs hm cs hb (hq.imp id (by omega)) h4⟩
theorem RepEls.tr {C C' : Cx} (hs : Stays C C') {md md' : Md} (hm : Tr C C' md md') : ∀ (els : List (List AV)) {b : Nat}, C'.w.heap[b]? = C.w.heap[b]? → ∀ {off q q' sz : Nat}, md'.isRead = true ∨ q' = q → RepEls C md b off q sz els → RepEls C' md' b off q' sz els
  | [], _, _, _, _, _, _, _, _ => trivial
  | e :: es, b, hb, off, q, q', sz, hq, h => by
    obtain ⟨h1, h2, h3⟩ := h
    exact ⟨h1, RepCs.tr hs hm e hb hq h2, RepEls.tr hs hm es hb (hq.imp id (by omega)) h3⟩
end


/-! ### values that show nothing of what was there -/
mutual
def AV.pure : AV → Prop
  | .any => True
  | .v _ => True
  | .row _ _ els => pureEls els
  | .agg cs => pureCs cs
  | .tup cs => pureCs cs
  | .bx _ cs => pureCs cs
  | .ifc _ a => a.pure
  | .fn _ cs => pureCs cs
  | _ => False
def pureCs : List AV → Prop
  | [] => True
  | c :: cs => c.pure ∧ pureCs cs
def pureEls : List (List AV) → Prop
  | [] => True
  | e :: es => pureCs e ∧ pureEls es
end
mutual
theorem Rep.trP {C C' : Cx} {md md' : Md} (hm : Tr C C' md md') : ∀ (a : AV) (x : Value), a.pure → Rep C true md a x → Rep C' true md' a x
  | .any, _, _, _ => trivial
  | .v u, x, _, h => h
  | .row e sz els, x, hp, h => by
    have hp : pureEls els := hp
    cases md with
    | read o =>
      cases md' with
      | own p' => exact hm.elim
      | read o' =>
        obtain ⟨ha, A, c, rfl, h1, h2, h3⟩ := h
        refine ⟨hm.1 ha, A, c, rfl, h1, h2, ?_⟩
        rcases h3 with h3 | ⟨b, off, rfl, hb, hr⟩
        · exact .inl h3
        · have := hm.2 b hb
          exact .inr ⟨b, off, rfl, this.1, RepEls.trP hm els hp this.2 (.inr rfl) hr⟩
    | own p =>
      obtain ⟨A, c, rfl, h⟩ := h
      cases md' with
      | own p' =>
        refine ⟨A, c, rfl, ?_⟩
        rcases h with h | ⟨g, off, arr, fr, q, rfl, hL, hh, h1, h2, h3, h4, h5⟩
        · exact .inl h
        · have := hm g [] (by simpa using hL)
          exact .inr ⟨g, off, arr, fr, q, rfl, by simpa using this.1, this.2.trans hh, h1, h2, h3, h4, RepEls.trP hm els hp this.2 (.inr rfl) h5⟩
      | read o =>
        refine ⟨hm.1, A, c, rfl, ?_⟩
        rcases h with ⟨rfl, rfl, rfl⟩ | ⟨g, off, arr, fr, q, rfl, hL, hh, h1, h2, h3, h4, h5⟩
        · exact ⟨Nat.le_refl _, Nat.zero_le _, .inl rfl⟩
        · have := hm.2 g [] (by simpa using hL)
          exact ⟨h1, h4, .inr ⟨g, off, rfl, this.1, RepEls.trP hm els hp this.2 (.inl rfl) h5⟩⟩
  | .rd .., x, hp, _ => hp.elim
  | .rp .., x, hp, _ => hp.elim
  | .ref _, x, hp, _ => hp.elim
  | .ptr .., x, hp, _ => hp.elim
  | .agg cs, x, hp, h => by
    obtain ⟨vs, rfl, h⟩ := h
    exact ⟨vs, rfl, RepVs.trP hm cs vs.toList 0 hp h⟩
  | .tup cs, x, hp, h => by
    obtain ⟨vs, rfl, h⟩ := h
    exact ⟨vs, rfl, RepVs.trP hm cs vs.toList 0 hp h⟩
  | .bx t cs, x, hp, h => by
    cases md with
    | read o =>
      cases md' with
      | own p' => exact hm.elim
      | read o' =>
        obtain ⟨ha, g, off, rfl, h1, h2⟩ := h
        have := hm.2 g h1
        exact ⟨hm.1 ha, g, off, rfl, this.1, RepCs.trP hm cs hp this.2 (.inl rfl) h2⟩
    | own p =>
      obtain ⟨g, arr, rfl, h1, h2, h3, h4⟩ := h
      cases md' with
      | own p' =>
        have := hm g [0] h1
        exact ⟨g, arr, rfl, this.1, this.2.trans h2, h3, RepCs.trP (Tr.sub hm 1) cs hp this.2 (.inr rfl) h4⟩
      | read o =>
        have := hm.2 g [0] h1
        exact ⟨hm.1, g, 0, rfl, this.1, RepCs.trP (Tr.sub hm 1) cs hp this.2 (.inl rfl) h4⟩
  | .ifc t a, x, hp, h => by
    obtain ⟨v, rfl, h⟩ := h
    exact ⟨v, rfl, Rep.trP hm a v hp h⟩
  | .fn f cs, x, hp, h => by
    obtain ⟨vs, rfl, h⟩ := h
    exact ⟨vs, rfl, RepVs.trP hm cs vs.toList 0 hp h⟩
theorem RepVs.trP {C C' : Cx} {md md' : Md} (hm : Tr C C' md md') : ∀ (cs : List AV) (vs : List Value) (q : Nat), pureCs cs → RepVs C true md q cs vs → RepVs C' true md' q cs vs
  | [], vs, _, _, h => h
  | c :: cs, vs, q, hp, h => by
    obtain ⟨y, ys, rfl, h1, h2⟩ := h
    exact ⟨y, ys, rfl, Rep.trP (Tr.sub hm q) c y hp.1 h1, RepVs.trP hm cs ys (q + 1) hp.2 h2⟩
theorem RepCs.trP {C C' : Cx} {md md' : Md} (hm : Tr C C' md md') : ∀ (cs : List AV), pureCs cs → ∀ {b : Nat}, C'.w.heap[b]? = C.w.heap[b]? → ∀ {off q q' : Nat}, md'.isRead = true ∨ q' = q → RepCs C true md b off q cs → RepCs C' true md' b off q' cs
  | [], _, _, _, _, _, _, _, _ => trivial
  | c :: cs, hp, b, hb, off, q, q', hq, h => by
    obtain ⟨⟨y, h1, h2, h3⟩, h4⟩ := h
    exact ⟨⟨y, (cell_same hb off).trans h1, h2, by rw [Md.sub_eq hq]; exact Rep.trP (Tr.sub hm q) c y hp.1 h3⟩, RepCs.trP hm cs hp.2 hb (hq.imp id (by omega)) h4⟩
theorem RepEls.trP {C C' : Cx} {md md' : Md} (hm : Tr C C' md md') : ∀ (els : List (List AV)), pureEls els → ∀ {b : Nat}, C'.w.heap[b]? = C.w.heap[b]? → ∀ {off q q' sz : Nat}, md'.isRead = true ∨ q' = q → RepEls C md b off q sz els → RepEls C' md' b off q' sz els
  | [], _, _, _, _, _, _, _, _, _ => trivial
  | e :: es, hp, b, hb, off, q, q', sz, hq, h => by
    obtain ⟨h1, h2, h3⟩ := h
    exact ⟨h1, RepCs.trP hm e hp.1 hb hq h2, RepEls.trP hm es hp.2 hb (hq.imp id (by omega)) h3⟩
end
/-! ### values that show nothing but what came in -/
mutual
def AV.nf : AV → Prop
  | .any => True
  | .v _ => True
  | .row _ _ els => nfEls els
  | .rd o _ _ els => o = .ent ∧ nfEls els
  | .agg cs => nfCs cs
  | .tup cs => nfCs cs
  | .bx _ cs => nfCs cs
  | .ifc _ a => a.nf
  | .fn _ cs => nfCs cs
  | _ => False
def nfCs : List AV → Prop
  | [] => True
  | c :: cs => c.nf ∧ nfCs cs
def nfEls : List (List AV) → Prop
  | [] => True
  | e :: es => nfCs e ∧ nfEls es
end
mutual
theorem Rep.trN {C C' : Cx} (hs : ∀ b, C.ent b → C'.ent b ∧ C'.w.heap[b]? = C.w.heap[b]?) {md md' : Md} (hm : Tr C C' md md') : ∀ (a : AV) (x : Value), a.nf → Rep C true md a x → Rep C' true md' a x
  | .any, _, _, _ => trivial
  | .v u, x, _, h => h
  | .row e sz els, x, hp, h => by
    have hp : nfEls els := hp
    cases md with
    | read o =>
      cases md' with
      | own p' => exact hm.elim
      | read o' =>
        obtain ⟨ha, A, c, rfl, h1, h2, h3⟩ := h
        refine ⟨hm.1 ha, A, c, rfl, h1, h2, ?_⟩
        rcases h3 with h3 | ⟨b, off, rfl, hb, hr⟩
        · exact .inl h3
        · have := hm.2 b hb
          exact .inr ⟨b, off, rfl, this.1, RepEls.trN hs hm els hp this.2 (.inr rfl) hr⟩
    | own p =>
      obtain ⟨A, c, rfl, h⟩ := h
      cases md' with
      | own p' =>
        refine ⟨A, c, rfl, ?_⟩
        rcases h with h | ⟨g, off, arr, fr, q, rfl, hL, hh, h1, h2, h3, h4, h5⟩
        · exact .inl h
        · have := hm g [] (by simpa using hL)
          exact .inr ⟨g, off, arr, fr, q, rfl, by simpa using this.1, this.2.trans hh, h1, h2, h3, h4, RepEls.trN hs hm els hp this.2 (.inr rfl) h5⟩
      | read o =>
        refine ⟨hm.1, A, c, rfl, ?_⟩
        rcases h with ⟨rfl, rfl, rfl⟩ | ⟨g, off, arr, fr, q, rfl, hL, hh, h1, h2, h3, h4, h5⟩
        · exact ⟨Nat.le_refl _, Nat.zero_le _, .inl rfl⟩
        · have := hm.2 g [] (by simpa using hL)
          exact ⟨h1, h4, .inr ⟨g, off, rfl, this.1, RepEls.trN hs hm els hp this.2 (.inl rfl) h5⟩⟩
  | .rd o e sz els, x, hp, h => by
    obtain ⟨rfl, hp⟩ := (hp : o = .ent ∧ nfEls els)
    have hm' : Tr C C' (.read .ent) (.read .ent) := ⟨id, fun b hb => hs b hb⟩
    obtain ⟨h0, ⟨ha, _⟩, A, c, rfl, h1, h2, h3⟩ := h
    refine ⟨h0, ⟨trivial, trivial⟩, A, c, rfl, h1, h2, ?_⟩
    rcases h3 with h3 | ⟨b, off, rfl, hb, hr⟩
    · exact .inl h3
    · have := hs b hb
      exact .inr ⟨b, off, rfl, this.1, RepEls.trN hs hm' els hp this.2 (.inr rfl) hr⟩
  | .rp .., x, hp, _ => hp.elim
  | .ref _, x, hp, _ => hp.elim
  | .ptr .., x, hp, _ => hp.elim
  | .agg cs, x, hp, h => by
    obtain ⟨vs, rfl, h⟩ := h
    exact ⟨vs, rfl, RepVs.trN hs hm cs vs.toList 0 hp h⟩
  | .tup cs, x, hp, h => by
    obtain ⟨vs, rfl, h⟩ := h
    exact ⟨vs, rfl, RepVs.trN hs hm cs vs.toList 0 hp h⟩
  | .bx t cs, x, hp, h => by
    cases md with
    | read o =>
      cases md' with
      | own p' => exact hm.elim
      | read o' =>
        obtain ⟨ha, g, off, rfl, h1, h2⟩ := h
        have := hm.2 g h1
        exact ⟨hm.1 ha, g, off, rfl, this.1, RepCs.trN hs hm cs hp this.2 (.inl rfl) h2⟩
    | own p =>
      obtain ⟨g, arr, rfl, h1, h2, h3, h4⟩ := h
      cases md' with
      | own p' =>
        have := hm g [0] h1
        exact ⟨g, arr, rfl, this.1, this.2.trans h2, h3, RepCs.trN hs (Tr.sub hm 1) cs hp this.2 (.inr rfl) h4⟩
      | read o =>
        have := hm.2 g [0] h1
        exact ⟨hm.1, g, 0, rfl, this.1, RepCs.trN hs (Tr.sub hm 1) cs hp this.2 (.inl rfl) h4⟩
  | .ifc t a, x, hp, h => by
    obtain ⟨v, rfl, h⟩ := h
    exact ⟨v, rfl, Rep.trN hs hm a v hp h⟩
  | .fn f cs, x, hp, h => by
    obtain ⟨vs, rfl, h⟩ := h
    exact ⟨vs, rfl, RepVs.trN hs hm cs vs.toList 0 hp h⟩
theorem RepVs.trN {C C' : Cx} (hs : ∀ b, C.ent b → C'.ent b ∧ C'.w.heap[b]? = C.w.heap[b]?) {md md' : Md} (hm : Tr C C' md md') : ∀ (cs : List AV) (vs : List Value) (q : Nat), nfCs cs → RepVs C true md q cs vs → RepVs C' true md' q cs vs
  | [], vs, _, _, h => h
  | c :: cs, vs, q, hp, h => by
    obtain ⟨y, ys, rfl, h1, h2⟩ := h
    exact ⟨y, ys, rfl, Rep.trN hs (Tr.sub hm q) c y hp.1 h1, RepVs.trN hs hm cs ys (q + 1) hp.2 h2⟩
theorem RepCs.trN {C C' : Cx} (hs : ∀ b, C.ent b → C'.ent b ∧ C'.w.heap[b]? = C.w.heap[b]?) {md md' : Md} (hm : Tr C C' md md') : ∀ (cs : List AV), nfCs cs → ∀ {b : Nat}, C'.w.heap[b]? = C.w.heap[b]? → ∀ {off q q' : Nat}, md'.isRead = true ∨ q' = q → RepCs C true md b off q cs → RepCs C' true md' b off q' cs
  | [], _, _, _, _, _, _, _, _ => trivial
  | c :: cs, hp, b, hb, off, q, q', hq, h => by
    obtain ⟨⟨y, h1, h2, h3⟩, h4⟩ := h
    exact ⟨⟨y, (cell_same hb off).trans h1, h2, by rw [Md.sub_eq hq]; exact Rep.trN hs (Tr.sub hm q) c y hp.1 h3⟩, RepCs.trN hs hm cs hp.2 hb (hq.imp id (by omega)) h4⟩
theorem RepEls.trN {C C' : Cx} (hs : ∀ b, C.ent b → C'.ent b ∧ C'.w.heap[b]? = C.w.heap[b]?) {md md' : Md} (hm : Tr C C' md md') : ∀ (els : List (List AV)), nfEls els → ∀ {b : Nat}, C'.w.heap[b]? = C.w.heap[b]? → ∀ {off q q' sz : Nat}, md'.isRead = true ∨ q' = q → RepEls C md b off q sz els → RepEls C' md' b off q' sz els
  | [], _, _, _, _, _, _, _, _, _ => trivial
  | e :: es, hp, b, hb, off, q, q', sz, hq, h => by
    obtain ⟨h1, h2, h3⟩ := h
    exact ⟨h1, RepCs.trN hs hm e hp.1 hb hq h2, RepEls.trN hs hm es hp.2 hb (hq.imp id (by omega)) h3⟩
end
mutual
theorem Rep.loose {C : Cx} : ∀ {md : Md} (a : AV) (x : Value), Rep C true md a x → Rep C false md a x
  | _, .any, _, _ => trivial
  | _, .v u, x, h => h
  | _, .row e sz els, x, h => h
  | _, .rd .., x, h => ⟨by simp, h.2⟩
  | _, .rp .., x, h => by exact absurd h.1 (by simp)
  | _, .ref _, x, h => by exact absurd h.1 (by simp)
  | _, .ptr .., x, h => by exact absurd h.1 (by simp)
  | _, .agg cs, x, h => by
    obtain ⟨vs, rfl, h⟩ := h
    exact ⟨vs, rfl, RepVs.loose cs vs.toList 0 h⟩
  | _, .tup cs, x, h => by
    obtain ⟨vs, rfl, h⟩ := h
    exact ⟨vs, rfl, RepVs.loose cs vs.toList 0 h⟩
  | _, .bx .., x, h => h
  | _, .ifc t a, x, h => by
    obtain ⟨v, rfl, h⟩ := h
    exact ⟨v, rfl, Rep.loose a v h⟩
  | _, .fn f cs, x, h => by
    obtain ⟨vs, rfl, h⟩ := h
    exact ⟨vs, rfl, RepVs.loose cs vs.toList 0 h⟩
theorem RepVs.loose {C : Cx} : ∀ {md : Md} (cs : List AV) (vs : List Value) (q : Nat), RepVs C true md q cs vs → RepVs C false md q cs vs
  | _, [], vs, _, h => h
  | _, c :: cs, vs, q, h => by
    obtain ⟨y, ys, rfl, h1, h2⟩ := h
    exact ⟨y, ys, rfl, Rep.loose c y h1, RepVs.loose cs ys (q + 1) h2⟩
end

end Go.Ev
