/- What the machine does at a map of the call's own: looking up. -/
import Derived.Test.YtijmbcnhkdhkeaaEve
import Derived.MapKept
set_option linter.unusedVariables false
set_option linter.unusedSimpArgs false
namespace Go.Ev
open Go Go.MapKept
theorem kEq_iff {d : TypeDesc} {a b : Value} (ha : IsKey d a) (hb : IsKey d b) : kEq a b = true ↔ a = b := by
  cases d <;> cases a <;> cases b <;> simp_all [IsKey, kEq, bytes_beq]
def pairsOf (es : List MapEntry) : List (Value × Value) := es.map fun x => (x.key, x.val)
theorem findNow_mget {d : TypeDesc} {k : Value} (hk : IsKey d k) : ∀ (l : List MapEntry) (i : Nat), (∀ x ∈ l, IsKey d x.key) → ∃ r, Instr.findNow d k l i = some r ∧ r.map (·.2) = mget (pairsOf l) k
  | [], _, _ => ⟨none, rfl, rfl⟩
  | e :: es, i, h => by
    obtain ⟨r, hr, hiff⟩ := sameNow_of_keys hk (h e (.head _))
    have hq := kEq_iff (h e (.head _)) hk
    cases r with
    | true =>
      have e1 : kEq e.key k = true := hq.2 (hiff.1 rfl).symm
      exact ⟨some (i, e.val), by simp [Instr.findNow, hr], by show some e.val = sel (kEq e.key k) _ _; rw [e1]; rfl⟩
    | false =>
      have e1 : kEq e.key k = false := by
        cases h2 : kEq e.key k with
        | false => rfl
        | true => have := hiff.2 (hq.1 h2).symm; cases this
      obtain ⟨r, h1, h2⟩ := findNow_mget hk es (i + 1) (fun x hx => h x (.tail _ hx))
      exact ⟨r, by simp [Instr.findNow, hr, h1], by rw [h2]; show _ = sel (kEq e.key k) _ _; rw [e1]; rfl⟩
theorem run_lookup_own {P : Program} {w : World} {r : Nat} {es : Array MapEntry} {clock : Nat} {mty kt et : TypeId} {d : TypeDesc} {key z : Value} (hm : P.underlying mty = some (.map kt et)) (hd : P.underlying kt = some d)
    (hb : w.heap[r]? = some (.map es clock)) (hks : ∀ x ∈ es.toList, IsKey d x.key) (hk : IsKey d key) (hz : (zeroValue et).run P w = .ok z w) (c : Bool) :
    (Instr.lookup mty (.map (some r)) key c).run P w = .ok (if c then .tuple #[(mget (pairsOf es.toList) key).getD z, .bool (mget (pairsOf es.toList) key).isSome] else (mget (pairsOf es.toList) key).getD z) w := by
  obtain ⟨f, h1, h2⟩ := findNow_mget hk es.toList 0 hks
  rw [← h2]
  cases f with
  | none => cases c <;> simp [Instr.lookup, run_underlying hm, Go.MapKept.run_getObj_map hb, run_checkKey hd hk, run_findKey hd h1, hz, Result.andThen]
  | some p => cases c <;> simp [Instr.lookup, run_underlying hm, Go.MapKept.run_getObj_map hb, run_checkKey hd hk, run_findKey hd h1, hz, Result.andThen]
theorem findNow_mput {d : TypeDesc} {k v : Value} (hk : IsKey d k) : ∀ (l : List MapEntry) (i : Nat), (∀ x ∈ l, IsKey d x.key) →
    (Instr.findNow d k l i = some none ∧ mput (pairsOf l) k v = pairsOf l ++ [(k, v)]) ∨ ∃ j e, Instr.findNow d k l i = some (some (i + j, e.val)) ∧ l[j]? = some e ∧ e.key = k ∧ mput (pairsOf l) k v = (pairsOf l).set j (k, v)
  | [], _, _ => .inl ⟨rfl, rfl⟩
  | e :: es, i, h => by
    obtain ⟨r, hr, hiff⟩ := sameNow_of_keys hk (h e (.head _))
    have hq := kEq_iff (h e (.head _)) hk
    cases r with
    | true =>
      have e1 : kEq e.key k = true := hq.2 (hiff.1 rfl).symm
      exact .inr ⟨0, e, by simp [Instr.findNow, hr], rfl, (hiff.1 rfl).symm, by show sel (kEq e.key k) _ _ = _; rw [e1]; rfl⟩
    | false =>
      have e1 : kEq e.key k = false := by
        cases h2 : kEq e.key k with
        | false => rfl
        | true => have := hiff.2 (hq.1 h2).symm; cases this
      have e2 : mput (pairsOf (e :: es)) k v = (e.key, e.val) :: mput (pairsOf es) k v := by show sel (kEq e.key k) _ _ = _; rw [e1]; rfl
      rcases findNow_mput hk es (i + 1) (fun x hx => h x (.tail _ hx)) with ⟨h1, h2⟩ | ⟨j, e', h1, h2, h3, h4⟩
      · exact .inl ⟨by simp [Instr.findNow, hr, h1], by rw [e2, h2]; rfl⟩
      · exact .inr ⟨j + 1, e', by simp [Instr.findNow, hr, h1]; omega, by simpa using h2, h3, by rw [e2, h4]; rfl⟩
theorem run_mapUpdate_own {P : Program} {w : World} {r : Nat} {es : Array MapEntry} {clock : Nat} {mty kt et : TypeId} {d : TypeDesc} {key value : Value} (hm : P.underlying mty = some (.map kt et)) (hd : P.underlying kt = some d)
    (hb : w.heap[r]? = some (.map es clock)) (hks : ∀ x ∈ es.toList, IsKey d x.key) (hk : IsKey d key) :
    ∃ es' clock', (Instr.mapUpdate mty (.map (some r)) key value).run P w = .ok () { w with heap := w.heap.setIfInBounds r (.map es' clock') } ∧ pairsOf es'.toList = mput (pairsOf es.toList) key value ∧ ∀ x ∈ es'.toList, IsKey d x.key := by
  rcases findNow_mput (v := value) hk es.toList 0 hks with ⟨h1, h2⟩ | ⟨j, e, h1, h2, h3, h4⟩
  · refine ⟨es.push { key, val := value, born := clock }, clock + 1, ?_, ?_, fun x hx => ?_⟩
    · simp [Instr.mapUpdate, run_underlying hm, Go.MapKept.run_getObj_map hb, run_checkKey hd hk, run_findKey hd h1, Go.MapKept.run_setObj_map _ hb, Result.andThen]
    · rw [h2]; simp [pairsOf]
    · simp only [Array.toList_push, List.mem_append, List.mem_singleton] at hx
      rcases hx with hx | rfl
      · exact hks x hx
      · exact hk
  · have hj : es[j]? = some e := by simpa using h2
    refine ⟨es.modify j fun e => { e with key, val := value }, clock, ?_, ?_, ?_⟩
    · simp [Instr.mapUpdate, run_underlying hm, Go.MapKept.run_getObj_map hb, run_checkKey hd hk, run_findKey hd h1, hj, h3, run_keyThatStays hk, Go.MapKept.run_setObj_map _ hb, Result.andThen]
    · rw [h4]
      apply List.ext_getElem?
      intro i
      simp [pairsOf, Array.getElem?_modify, List.getElem?_set]
      by_cases hi : j = i
      · subst hi; simp [hj]
        exact (Array.getElem?_eq_some_iff.1 hj).1
      · simp [hi]
    · exact isKey_modify hks _ _ (fun e' he' => by rw [hj] at he'; cases he'; exact h3.symm)
end Go.Ev
