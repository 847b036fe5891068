/- The evaluator, part 14: a law's arguments, as the row gives them. -/
import Derived.Test.YtijmbcnhkdhkeaaEvm
import Derived.ChangeArms
import Derived.ChangeOld
import Derived.DataReads
import Derived.SizedLaws
set_option linter.unusedVariables false
set_option linter.unusedSimpArgs false
namespace Go.Ev
open Go Go.RowKit
def inC (W : World) : Cx := ⟨W, fun b => b < W.heap.size, fun _ => False, fun _ => none, fun _ => undef, fun _ => False⟩
/-- Whatever reads as a value of type t looks like enc a for some a with inv a. -/
def Opens (P : Program) (t : TypeId) {α : Type} (enc : α → List AV) (inv : α → Prop) : Prop :=
  ∀ {H : Type} (eh : TypeId × Value → H) (W : World) (fuel : Nat) (cs : List Value) (x : DataW H × List MemPlace), DataW.trod eh P W 0 (fun _ => true) true fuel t cs = some x → (∀ n ∈ x.1.weights P t, n ≤ reachBytes) →
    ∃ a : α, inv a ∧ RepVs (inC W) true (.read .ent) 0 (enc a) cs
section
variable {P : Program} {t : TypeId}
theorem Opens.int {k : IntKind} (ht : P.underlying t = some (.int k)) : Opens P t (fun n : Int => [.v (.int k n)]) (fun n => (Lit.int k n).wf = true) := fun eh W fuel cs x h _ => by
  obtain ⟨n, rfl, _, hw⟩ := DataW.trod_int ht h
  exact ⟨n, hw, _, [], rfl, rep_v trivial, rfl⟩
theorem Opens.u8 (ht : P.underlying t = some (.int .u8)) : Opens P t (fun b : UInt8 => byteC b) (fun _ => True) := fun eh W fuel cs x h _ => by
  obtain ⟨n, rfl, _, hw⟩ := DataW.trod_int ht h
  have h1 : 0 ≤ n ∧ n < 256 := by simp [Lit.wf, IntKind.min, IntKind.max, IntKind.signed, IntKind.bits] at hw; omega
  refine ⟨UInt8.ofNat n.toNat, trivial, _, [], rfl, ?_, rfl⟩
  have : ((UInt8.ofNat n.toNat).toNat : Int) = n := by rw [UInt8.toNat_ofNat_of_lt' (by show _ < 256; omega)]; omega
  rw [this]
  exact rep_v trivial
theorem Opens.bool (ht : P.underlying t = some .bool) : Opens P t (fun b : Bool => [.v (.bool b)]) (fun _ => True) := fun eh W fuel cs x h _ => by
  obtain ⟨b, rfl, _⟩ := DataW.trod_bool ht h
  exact ⟨b, trivial, _, [], rfl, rep_v trivial, rfl⟩
theorem Opens.str (ht : P.underlying t = some .string) : Opens P t (fun s : ByteArray => [.v (.string s)]) (fun s => s.size ≤ reachBytes) := fun eh W fuel cs x h hw => by
  obtain ⟨s, rfl, rfl, _⟩ := DataW.trod_string ht h
  refine ⟨s, ?_, _, [], rfl, rep_v trivial, rfl⟩
  have := hw s.data.toList.length (by simp [DataW.weights])
  simpa using this
theorem pick_list {α : Type} {Q : Nat → α → Prop} : ∀ n, (∀ i, i < n → ∃ a, Q i a) → ∃ as : List α, as.length = n ∧ ∀ (i : Nat) a, as[i]? = some a → Q i a
  | 0, _ => ⟨[], rfl, fun i a h => by simp at h⟩
  | n + 1, h => by
    obtain ⟨as, h1, h2⟩ := pick_list n fun i hi => h i (by omega)
    obtain ⟨a, ha⟩ := h n (by omega)
    refine ⟨as ++ [a], by simp [h1], fun i b hb => ?_⟩
    rw [List.getElem?_append] at hb
    split at hb
    · exact h2 i b hb
    · rename_i hi
      have : i - as.length = 0 := by
        have := (List.getElem?_eq_some_iff.1 hb).1
        simp at this; omega
      rw [this] at hb
      obtain rfl : a = b := by simpa using hb
      have : i = n := by omega
      subst this; exact ha
theorem RepVs.one {C : Cx} {cl : Bool} {o : Org} {q : Nat} {c : AV} {v : Value} (h : RepVs C cl (.read o) q [c] [v]) : Rep C cl (.read o) c v := by
  obtain ⟨y, ys, e, h1, _⟩ := h
  injection e with e1 _
  rw [e1]; exact h1
/-- Cells that may lie in a row. -/
def flatC : AV → Prop
  | .v _ => True
  | .row .. => True
  | _ => False
theorem flatC_one {C : Cx} {cl : Bool} {o : Org} {c : AV} {y : Value} (h : flatC c) (hr : Rep C cl (.read o) c y) : one y := by
  cases c with
  | v u => rw [hr.1]; exact hr.2
  | row e sz els => obtain ⟨_, A, c, rfl, _⟩ := hr; trivial
  | _ => exact h.elim
theorem mem_weightsAll {H : Type} {e : TypeId} : ∀ {ds : List (DataW H)} {d : DataW H}, d ∈ ds → ∀ n ∈ d.weights P e, n ∈ DataW.weightsAll P e ds
  | d' :: ds, d, h, n, hn => by
    rw [DataW.weightsAll, List.mem_append]
    rcases List.mem_cons.1 h with rfl | h
    · exact .inl hn
    · exact .inr (mem_weightsAll h n hn)
theorem Opens.slice {e : TypeId} (ht : P.underlying t = some (.slice e)) {sz by_ : Nat} (hc : P.cellsOf e = sz) (hsz : 0 < sz) (hb : P.bytesOf e = by_) (hby : 0 < by_) {α : Type} {enc : α → List AV} {inv : α → Prop} (h : Opens P e enc inv)
    (hlen : ∀ a, (enc a).length = sz) (hone : ∀ a, ∀ c ∈ enc a, flatC c) : Opens P t (fun as : List α => [.row e sz (as.map enc)]) (fun as => as.length * by_ ≤ reachBytes ∧ ∀ a ∈ as, inv a) := fun eh W fuel cs x hx hw => by
  rcases DataW.trod_slice ht hx with ⟨rfl, _⟩ | ⟨a, len, cap, elems, rest, n, _, rfl, rfl, _, hl, _, hel, hat, _, _⟩
  · exact ⟨[], ⟨by simp, fun a h => by simp at h⟩, _, [], rfl, ⟨trivial, none, 0, rfl, Nat.le_refl _, Nat.zero_le _, .inl rfl⟩, rfl⟩
  · have hw0 := hw ((elems.length + rest.length) * by_) (by simp [DataW.weights, ht, hb])
    have hbig : len * by_ ≤ reachBytes := Nat.le_trans (Nat.mul_le_mul_right _ (by omega)) hw0
    have hwe : ∀ y ∈ elems, ∀ m ∈ y.1.weights P e, m ≤ reachBytes := fun y hy m hm => hw m (by
      simp only [DataW.weights, ht, List.mem_cons, List.mem_append]
      exact .inr (.inl (mem_weightsAll (List.mem_map.2 ⟨y, hy, rfl⟩) m hm)))
    have each : ∀ i, i < len → ∃ a', inv a' ∧ ∃ cs', W.cells? 0 (a.add (i * sz)) sz = some cs' ∧ RepVs (inC W) true (.read .ent) 0 (enc a') cs' := fun i hi => by
      have h1 := hat i hi
      rw [hc] at h1
      have h2 : elems[i]? = some elems[i] := List.getElem?_eq_getElem _
      rw [h2] at h1
      obtain ⟨cs', h3, h4⟩ := Option.bind_eq_some_iff.1 h1
      obtain ⟨a', h5, h6⟩ := h eh W n cs' elems[i] h4 (hwe _ (List.getElem_mem _))
      exact ⟨a', h5, cs', h3, h6⟩
    obtain ⟨as, has, hQ⟩ := pick_list len each
    have hbig2 : len ≤ BIG := by
      have : len * 1 ≤ len * by_ := Nat.mul_le_mul_left _ hby
      rw [BIG_eq]
      have : reachBytes ≤ 140737488355328 := by decide
      omega
    refine ⟨as, ⟨by rw [has]; exact hbig, fun a' ha' => ?_⟩, _, [], rfl, ⟨trivial, some a, cap, by rw [List.length_map, has], by rw [List.length_map, has]; exact hl, by rw [List.length_map, has]; exact hbig2, ?_⟩, rfl⟩
    · obtain ⟨i, hi⟩ := List.mem_iff_getElem?.1 ha'
      exact (hQ i a' hi).1
    · by_cases h0 : len = 0
      · left
        rw [List.map_eq_nil_iff]
        exact List.eq_nil_of_length_eq_zero (by omega)
      · right
        obtain ⟨b, off, spot⟩ := a
        obtain ⟨a0, ha0⟩ : ∃ a', as[0]? = some a' := getElem?_of_lt (by omega)
        obtain ⟨_, cs0, hc0, _⟩ := hQ 0 a0 ha0
        obtain ⟨_, hl0, hg0⟩ := World.cells?_some hc0
        have hspot : spot = none := by
          have h1 := hg0 0 hsz
          have h2 : (((⟨b, off, spot⟩ : Addr).add (0 * sz)).add 0) = ⟨b, off, spot⟩ := by simp [Addr.add]
          rw [h2, List.getElem?_eq_getElem (by omega)] at h1
          unfold World.cell? at h1
          split at h1
          · cases spot with
            | none => rfl
            | some s => simp at h1
          · cases h1
        subst hspot
        have hblt : b < W.heap.size := by
          have := World.cells?_block hc0 hsz
          simpa [Addr.add] using this
        refine ⟨b, off, rfl, hblt, RepEls.of fun i cs hcs => ?_⟩
        rw [List.getElem?_map] at hcs
        obtain ⟨a', ha', rfl⟩ := Option.map_eq_some_iff.1 hcs
        obtain ⟨_, cs', hc', hr'⟩ := hQ i a' ha'
        obtain ⟨_, hl', hg'⟩ := World.cells?_some hc'
        refine ⟨hlen a', RepCs.of fun k c hk => ?_⟩
        obtain ⟨v, hv, hrv⟩ := hr'.at_ hk
        have hk' := (List.getElem?_eq_some_iff.1 hk).1
        rw [hlen] at hk'
        refine ⟨v, ?_, flatC_one (hone a' c (List.mem_of_getElem? hk)) hrv, hrv⟩
        have := hg' k hk'
        rw [add_none, add_none, hv] at this
        exact this
/-- Fields side by side. -/
def OpensF (P : Program) (fs : List Field) (off : Nat) {α : Type} (enc : α → List AV) (inv : α → Prop) : Prop :=
  ∀ {H : Type} (eh : TypeId × Value → H) (W : World) (n : Nat) (cs : List Value) (xs : List (DataW H × List MemPlace)), xs.length = fs.length →
    (∀ (i : Nat) (f : Field), fs[i]? = some f → DataW.trod eh P W 0 (fun _ => true) true n f.type ((cs.drop f.offset).take (P.cellsOf f.type)) = xs[i]?) → (∀ m ∈ DataW.weightsEach P (fs.map (·.type)) (xs.map (·.1)), m ≤ reachBytes) →
    ∃ a : α, inv a ∧ ∀ q, RepVs (inC W) true (.read .ent) q (enc a) (cs.drop off)
theorem OpensF.nil {off N : Nat} : ∀ {H : Type} (eh : TypeId × Value → H) (W : World) (cs : List Value), cs.length = off → ∀ q, RepVs (inC W) true (.read .ent) q [] (cs.drop off) := fun eh W cs h q => by
  rw [List.drop_of_length_le (by omega)]; rfl
end
end Go.Ev
