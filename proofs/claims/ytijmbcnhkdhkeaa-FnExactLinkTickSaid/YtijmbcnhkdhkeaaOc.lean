/- A law's arguments that are structs. -/
import Derived.Test.YtijmbcnhkdhkeaaEvn
set_option linter.unusedSimpArgs false
set_option linter.unusedVariables false
namespace Go.Ev
open Go Go.RowKit
variable {P : Program}
theorem RepVs.shift {C : Cx} {cl : Bool} {o : Org} : ∀ {as : List AV} {vs : List Value} {q q' : Nat}, RepVs C cl (.read o) q as vs → RepVs C cl (.read o) q' as vs
  | [], vs, q, q', h => h
  | c :: cs, vs, q, q', h => by
    obtain ⟨y, ys, e, h1, h2⟩ := h
    exact ⟨y, ys, e, h1, RepVs.shift h2⟩
theorem RepVs.app {C : Cx} {cl : Bool} {o : Org} {bs : List AV} {ws : List Value} : ∀ {as : List AV} {vs : List Value} {q : Nat}, RepVs C cl (.read o) q as vs → RepVs C cl (.read o) 0 bs ws → RepVs C cl (.read o) q (as ++ bs) (vs ++ ws)
  | [], vs, q, h, h' => by
    have e : vs = [] := h
    rw [e]; exact h'.shift
  | c :: cs, vs, q, h, h' => by
    obtain ⟨y, ys, e, h1, h2⟩ := h
    exact ⟨y, ys ++ ws, by rw [e]; rfl, h1, RepVs.app h2 h'⟩
/-- Fields side by side, from the cell off on. -/
def OpensG (P : Program) (fs : List Field) (off tot : Nat) {α : Type} (enc : α → List AV) (inv : α → Prop) : Prop :=
  ∀ {H : Type} (eh : TypeId × Value → H) (W : World) (n : Nat) (cs : List Value) (xs : List (DataW H × List MemPlace)), cs.length = tot → xs.length = fs.length →
    (∀ (i : Nat) (f : Field), fs[i]? = some f → DataW.trod eh P W 0 (fun _ => true) true n f.type ((cs.drop f.offset).take (P.cellsOf f.type)) = xs[i]?) → (∀ m ∈ DataW.weightsEach P (fs.map (·.type)) (xs.map (·.1)), m ≤ reachBytes) →
    ∃ a : α, inv a ∧ RepVs (inC W) true (.read .ent) 0 (enc a) (cs.drop off)
theorem OpensG.nil {tot : Nat} : OpensG P [] tot tot (fun _ : Unit => []) (fun _ => True) := fun eh W n cs xs h _ _ _ => ⟨(), trivial, by rw [List.drop_of_length_le (by omega)]; rfl⟩
theorem OpensG.cons {f : Field} {fs : List Field} {off k tot : Nat} {α β : Type} {enc : α → List AV} {inv : α → Prop} {encs : β → List AV} {invs : β → Prop} (hoff : f.offset = off) (hk : P.cellsOf f.type = k) (h : Opens P f.type enc inv) (hs : OpensG P fs (off + k) tot encs invs) :
    OpensG P (f :: fs) off tot (fun p : α × β => enc p.1 ++ encs p.2) (fun p => inv p.1 ∧ invs p.2) := fun eh W n cs xs hl hx hf hw => by
  match xs, hx with
  | x :: xs, hx =>
    have h0 := hf 0 f rfl
    rw [hoff, hk] at h0
    obtain ⟨a, ha, hra⟩ := h eh W n _ x h0 (fun m hm => hw m (by simp only [List.map_cons, DataW.weightsEach, List.mem_append]; exact .inl hm))
    obtain ⟨b, hb, hrb⟩ := hs eh W n cs xs hl (by simpa using hx) (fun i g hg => by simpa using hf (i + 1) g (by simpa using hg)) (fun m hm => hw m (by simp only [List.map_cons, DataW.weightsEach, List.mem_append]; exact .inr hm))
    refine ⟨(a, b), ⟨ha, hb⟩, ?_⟩
    have e : cs.drop off = (cs.drop off).take k ++ cs.drop (off + k) := by rw [← List.drop_drop, List.take_append_drop]
    rw [e]
    exact hra.app hrb
theorem Opens.struct {t : TypeId} {fs : Array Field} {tot : Nat} (ht : P.underlying t = some (.struct fs)) (htot : P.cellsOf t = tot) {α : Type} {enc : α → List AV} {inv : α → Prop} (h : OpensG P fs.toList 0 tot enc inv) : Opens P t enc inv := fun eh W fuel cs x hx hw => by
  obtain ⟨xs, n, _, rfl, hl, hlen, hf⟩ := DataW.trod_struct ht hx
  obtain ⟨a, ha, hr⟩ := h eh W n cs xs (by rw [hl, htot]) (by simpa using hlen) (fun i f hi => hf i f (by simpa using hi)) (fun m hm => hw m (by simp only [DataW.weights, ht]; exact hm))
  exact ⟨a, ha, hr⟩
theorem Opens.map {t : TypeId} {α β : Type} {enc : α → List AV} {inv : α → Prop} {enc' : β → List AV} {inv' : β → Prop} (g : α → β) (he : ∀ a, enc' (g a) = enc a) (hi : ∀ a, inv a → inv' (g a)) (h : Opens P t enc inv) : Opens P t enc' inv' := fun eh W fuel cs x hx hw => by
  obtain ⟨a, ha, hr⟩ := h eh W fuel cs x hx hw
  exact ⟨g a, hi a ha, by rw [he]; exact hr⟩
end Go.Ev
