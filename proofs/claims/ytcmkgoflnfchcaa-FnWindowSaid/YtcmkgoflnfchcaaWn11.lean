/- Part 11 of what the row leans on: the evaluator, words, contracts of functions; pruned by a program of ours. -/
import Derived.Test.YtcmkgoflnfchcaaWn10
import Derived.ChangeArms
import Derived.ChangeOld
import Derived.DataReads
import Derived.SizedLaws
set_option linter.unusedVariables false
set_option linter.unusedSimpArgs false
namespace Go.Ev
open Go Go.RowKit
def inC (W : World) : Cx := ⟨W, fun b => b < W.heap.size, fun _ => False, fun _ => none, fun _ => undef, fun _ => False⟩
def Opens (P : Program) (t : TypeId) {α : Type} (enc : α → List AV) (inv : α → Prop) : Prop :=
  ∀ {H : Type} (eh : TypeId × Value → H) (W : World) (fuel : Nat) (cs : List Value) (x : DataW H × List MemPlace), DataW.trod eh P W 0 (fun _ => true) true fuel t cs = some x → (∀ n ∈ x.1.weights P t, n ≤ reachBytes) →
    ∃ a : α, inv a ∧ RepVs (inC W) true (.read .ent) 0 (enc a) cs
section
variable {P : Program} {t : TypeId}
theorem Opens.u8 (ht : P.underlying t = some (.int .u8)) : Opens P t (fun b : UInt8 => byteC b) (fun _ => True) := fun eh W fuel cs x h _ => by
  obtain ⟨n, rfl, _, hw⟩ := DataW.trod_int ht h
  have h1 : 0 ≤ n ∧ n < 256 := by simp [Lit.wf, IntKind.min, IntKind.max, IntKind.signed, IntKind.bits] at hw; omega
  refine ⟨UInt8.ofNat n.toNat, trivial, _, [], rfl, ?_, rfl⟩
  have : ((UInt8.ofNat n.toNat).toNat : Int) = n := by rw [UInt8.toNat_ofNat_of_lt' (by show _ < 256; omega)]; omega
  rw [this]
  exact rep_v trivial
theorem pick_list {α : Type} {Q : Nat → α → Prop} : ∀ n, (∀ i, i < n → ∃ a, Q i a) → ∃ as : List α, as.length = n ∧ ∀ (i : Nat) a, as[i]? = some a → Q i a
  | 0, _ => ⟨[], rfl, fun i a h => by simp at h⟩
  | n + 1, h => by
    obtain ⟨as, h1, h2⟩ := pick_list n fun i hi => h i (by omega)
    obtain ⟨a, ha⟩ := h n (by omega)
    refine ⟨as ++ [a], by simp [h1], fun i b hb => ?_⟩
    rw [List.getElem?_append] at hb
    split at hb
    · exact h2 i b hb
    · rename_i hi
      have : i - as.length = 0 := by
        have := (List.getElem?_eq_some_iff.1 hb).1
        simp at this; omega
      rw [this] at hb
      obtain rfl : a = b := by simpa using hb
      have : i = n := by omega
      subst this; exact ha
theorem RepVs.one {C : Cx} {cl : Bool} {o : Org} {q : Nat} {c : AV} {v : Value} (h : RepVs C cl (.read o) q [c] [v]) : Rep C cl (.read o) c v := by
  obtain ⟨y, ys, e, h1, _⟩ := h
  injection e with e1 _
  rw [e1]; exact h1
def flatC : AV → Prop
  | .v _ => True
  | .row .. => True
  | _ => False
theorem flatC_one {C : Cx} {cl : Bool} {o : Org} {c : AV} {y : Value} (h : flatC c) (hr : Rep C cl (.read o) c y) : one y := by
  cases c with
  | v u => rw [hr.1]; exact hr.2
  | row e sz els => obtain ⟨_, A, c, rfl, _⟩ := hr; trivial
  | _ => exact h.elim
theorem mem_weightsAll {H : Type} {e : TypeId} : ∀ {ds : List (DataW H)} {d : DataW H}, d ∈ ds → ∀ n ∈ d.weights P e, n ∈ DataW.weightsAll P e ds
  | d' :: ds, d, h, n, hn => by
    rw [DataW.weightsAll, List.mem_append]
    rcases List.mem_cons.1 h with rfl | h
    · exact .inl hn
    · exact .inr (mem_weightsAll h n hn)
theorem Opens.slice {e : TypeId} (ht : P.underlying t = some (.slice e)) {sz by_ : Nat} (hc : P.cellsOf e = sz) (hsz : 0 < sz) (hb : P.bytesOf e = by_) (hby : 0 < by_) {α : Type} {enc : α → List AV} {inv : α → Prop} (h : Opens P e enc inv)
    (hlen : ∀ a, (enc a).length = sz) (hone : ∀ a, ∀ c ∈ enc a, flatC c) : Opens P t (fun as : List α => [.row e sz (as.map enc)]) (fun as => as.length * by_ ≤ reachBytes ∧ ∀ a ∈ as, inv a) := fun eh W fuel cs x hx hw => by
  rcases DataW.trod_slice ht hx with ⟨rfl, _⟩ | ⟨a, len, cap, elems, rest, n, _, rfl, rfl, _, hl, _, hel, hat, _, _⟩
  · exact ⟨[], ⟨by simp, fun a h => by simp at h⟩, _, [], rfl, ⟨trivial, none, 0, rfl, Nat.le_refl _, Nat.zero_le _, .inl rfl⟩, rfl⟩
  · have hw0 := hw ((elems.length + rest.length) * by_) (by simp [DataW.weights, ht, hb])
    have hbig : len * by_ ≤ reachBytes := Nat.le_trans (Nat.mul_le_mul_right _ (by omega)) hw0
    have hwe : ∀ y ∈ elems, ∀ m ∈ y.1.weights P e, m ≤ reachBytes := fun y hy m hm => hw m (by
      simp only [DataW.weights, ht, List.mem_cons, List.mem_append]
      exact .inr (.inl (mem_weightsAll (List.mem_map.2 ⟨y, hy, rfl⟩) m hm)))
    have each : ∀ i, i < len → ∃ a', inv a' ∧ ∃ cs', W.cells? 0 (a.add (i * sz)) sz = some cs' ∧ RepVs (inC W) true (.read .ent) 0 (enc a') cs' := fun i hi => by
      have h1 := hat i hi
      rw [hc] at h1
      have h2 : elems[i]? = some elems[i] := List.getElem?_eq_getElem _
      rw [h2] at h1
      obtain ⟨cs', h3, h4⟩ := Option.bind_eq_some_iff.1 h1
      obtain ⟨a', h5, h6⟩ := h eh W n cs' elems[i] h4 (hwe _ (List.getElem_mem _))
      exact ⟨a', h5, cs', h3, h6⟩
    obtain ⟨as, has, hQ⟩ := pick_list len each
    have hbig2 : len ≤ BIG := by
      have : len * 1 ≤ len * by_ := Nat.mul_le_mul_left _ hby
      rw [BIG_eq]
      have : reachBytes ≤ 140737488355328 := by decide
      omega
    refine ⟨as, ⟨by rw [has]; exact hbig, fun a' ha' => ?_⟩, _, [], rfl, ⟨trivial, some a, cap, by rw [List.length_map, has], by rw [List.length_map, has]; exact hl, by rw [List.length_map, has]; exact hbig2, ?_⟩, rfl⟩
    · obtain ⟨i, hi⟩ := List.mem_iff_getElem?.1 ha'
      exact (hQ i a' hi).1
    · by_cases h0 : len = 0
      · left
        rw [List.map_eq_nil_iff]
        exact List.eq_nil_of_length_eq_zero (by omega)
      · right
        obtain ⟨b, off, spot⟩ := a
        obtain ⟨a0, ha0⟩ : ∃ a', as[0]? = some a' := getElem?_of_lt (by omega)
        obtain ⟨_, cs0, hc0, _⟩ := hQ 0 a0 ha0
        obtain ⟨_, hl0, hg0⟩ := World.cells?_some hc0
        have hspot : spot = none := by
          have h1 := hg0 0 hsz
          have h2 : (((⟨b, off, spot⟩ : Addr).add (0 * sz)).add 0) = ⟨b, off, spot⟩ := by simp [Addr.add]
          rw [h2, List.getElem?_eq_getElem (by omega)] at h1
          unfold World.cell? at h1
          split at h1
          · cases spot with
            | none => rfl
            | some s => simp at h1
          · cases h1
        subst hspot
        have hblt : b < W.heap.size := by
          have := World.cells?_block hc0 hsz
          simpa [Addr.add] using this
        refine ⟨b, off, rfl, hblt, RepEls.of fun i cs hcs => ?_⟩
        rw [List.getElem?_map] at hcs
        obtain ⟨a', ha', rfl⟩ := Option.map_eq_some_iff.1 hcs
        obtain ⟨_, cs', hc', hr'⟩ := hQ i a' ha'
        obtain ⟨_, hl', hg'⟩ := World.cells?_some hc'
        refine ⟨hlen a', RepCs.of fun k c hk => ?_⟩
        obtain ⟨v, hv, hrv⟩ := hr'.at_ hk
        have hk' := (List.getElem?_eq_some_iff.1 hk).1
        rw [hlen] at hk'
        refine ⟨v, ?_, flatC_one (hone a' c (List.mem_of_getElem? hk)) hrv, hrv⟩
        have := hg' k hk'
        rw [add_none, add_none, hv] at this
        exact this
end
end Go.Ev
set_option linter.unusedSimpArgs false
set_option linter.unusedVariables false
namespace Go.Ev
open Go Go.RowKit
theorem ifB'.no {p : Prop} [Decidable p] {a b : Prop} {h1 : Fix a} {h2 : Fix b} (h : ¬ p) (h' : b) : ifB' (decide p) a b h1 h2 := ifB'.of (fun x => absurd x h) (fun _ => h')
def ra {α : Type} (enc : α → List AV) (xs : List α) : List (List AV) := xs.map enc
section
variable {α : Type} {enc : α → List AV}
theorem ra_length (xs : List α) : (ra enc xs).length = xs.length := by simp [ra]
theorem ra_at {xs : List α} {i : Nat} (h : i < xs.length) : (ra enc xs)[i]? = some (enc xs[i]) := by simp [ra, h]
theorem ra_at' {xs : List α} {i : Nat} {x : α} (h : xs[i]? = some x) : (ra enc xs)[i]? = some (enc x) := by simp [ra, h]
theorem ra_set (xs : List α) (i : Nat) (x : α) : (ra enc xs).set i (enc x) = ra enc (xs.set i x) := by simp [ra, List.map_set]
theorem ra_drop (a : List α) (i : Nat) : (ra enc a).drop i = ra enc (a.drop i) := by simp [ra]
theorem ra_take (a : List α) (i : Nat) : (ra enc a).take i = ra enc (a.take i) := by simp [ra]
theorem pureEls_ra (h : ∀ x, pureCs (enc x)) : ∀ xs : List α, pureEls (ra enc xs)
  | [] => trivial
  | x :: xs => ⟨h x, pureEls_ra h xs⟩
end
def boolC (b : Bool) : List AV := [.v (.bool b)]
def intC (n : Int) : List AV := [.v (.int .i64 n)]
def rowB (bs : List UInt8) : AV := .row 5 1 (bytesA bs)
theorem bytesA_length (bs : List UInt8) : (bytesA bs).length = bs.length := by simp [bytesA]
theorem bytesA_at {bs : List UInt8} {i : Nat} (h : i < bs.length) : (bytesA bs)[i]? = some [.v (.int .u8 bs[i].toNat)] := by simp [bytesA, byteC, h]
theorem bytesA_set (bs : List UInt8) (i : Nat) (b : UInt8) : (bytesA bs).set i [.v (.int .u8 b.toNat)] = bytesA (bs.set i b) := by simp [bytesA, byteC, List.map_set]
theorem bytesA_zeros (n : Nat) : List.replicate n [AV.v (.int .u8 0)] = bytesA (List.replicate n 0) := by simp [bytesA, byteC]
theorem bytesA_append (a b : List UInt8) : bytesA a ++ bytesA b = bytesA (a ++ b) := by simp [bytesA]
theorem bytesA_drop (a : List UInt8) (i : Nat) : (bytesA a).drop i = bytesA (a.drop i) := by simp [bytesA]
theorem bytesA_take (a : List UInt8) (i : Nat) : (bytesA a).take i = bytesA (a.take i) := by simp [bytesA]
def rowO (bs : List Bool) : AV := .row 4 1 (ra boolC bs)
def rowI (ns : List Int) : AV := .row 3 1 (ra intC ns)
theorem intA_zeros (n : Nat) : List.replicate n [AV.v (.int .i64 0)] = ra intC (List.replicate n 0) := by simp [ra, intC]
theorem pureEls_bytes (bs : List UInt8) : pureEls (bytesA bs) := pureEls_ra (enc := byteC) (fun _ => ⟨trivial, trivial⟩) bs
theorem pure_rowB (bs : List UInt8) : (rowB bs).pure := pureEls_bytes bs
theorem pure_rowO (bs : List Bool) : (rowO bs).pure := pureEls_ra (enc := boolC) (fun _ => ⟨trivial, trivial⟩) bs
theorem pure_rowI (bs : List Int) : (rowI bs).pure := pureEls_ra (enc := intC) (fun _ => ⟨trivial, trivial⟩) bs
def byC (bs : List UInt8) : List AV := [.row 5 1 (bytesA bs)]
def rowBB (xs : List (List UInt8)) : AV := .row 22 1 (ra byC xs)
theorem byA_at {xs : List (List UInt8)} {i : Nat} (h : i < xs.length) : (ra byC xs)[i]? = some [.row 5 1 (bytesA xs[i])] := ra_at h
theorem pure_byC (x : List UInt8) : pureCs (byC x) := ⟨pureEls_bytes x, trivial⟩
theorem pure_rowBB (xs : List (List UInt8)) : (rowBB xs).pure := pureEls_ra (enc := byC) pure_byC xs
theorem bytesA_snoc (xs : List UInt8) (b : UInt8) : bytesA xs ++ [[.v (.int .u8 b.toNat)]] = bytesA (xs ++ [b]) := by simp [bytesA, byteC]
theorem bytesA_snoc0 (xs : List UInt8) : bytesA xs ++ [[.v (.int .u8 0)]] = bytesA (xs ++ [0]) := by simp [bytesA, byteC]
theorem byA_snoc (xs : List (List UInt8)) (b : List UInt8) : ra byC xs ++ [[.row 5 1 (bytesA b)]] = ra byC (xs ++ [b]) := by simp [ra, byC]
theorem int_one : ((1 : Nat) : Int) = 1 := rfl
theorem int_zero : ((0 : Nat) : Int) = 0 := rfl
theorem bytesA_asrw (o : Org) (xs : List UInt8) : (bytesA xs).map (List.map (AV.asrw o)) = bytesA xs := by simp [bytesA, byteC, AV.asrw]
attribute [go_sem] bytesA_asrw
attribute [go_sem] int_one int_zero
attribute [go_sem] bytesA_snoc bytesA_snoc0 byA_snoc
attribute [go_sem] rowB rowO rowI rowBB bytesA_length bytesA_append bytesA_drop bytesA_take bytesA_set bytesA_zeros ra_length ra_drop ra_take intA_zeros List.set_cons_zero List.set_cons_succ Option.map_some AV.v.injEq Value.int.injEq Value.bool.injEq
theorem wrap_i64_of {n : Int} (h : -9223372036854775808 ≤ n) (h' : n ≤ 9223372036854775807) : IntKind.i64.wrap n = n := by rw [IntKind.wrap_i64]; omega
theorem wrap_succ {i : Nat} (h : i < 4611686018427387904) : IntKind.i64.wrap ((i : Int) + 1) = ((i + 1 : Nat) : Int) := by rw [IntKind.wrap_i64]; omega
theorem wrap_nat {n : Nat} (h : n ≤ 9223372036854775807) : IntKind.i64.wrap (n : Int) = (n : Int) := by rw [IntKind.wrap_i64]; omega
theorem wrap_u32 (n : Nat) : IntKind.u32.wrap (n : Int) = ((n % 4294967296 : Nat) : Int) := by
  simp [IntKind.wrap, IntKind.bits, IntKind.signed]
theorem wrap_u8 (n : Nat) : IntKind.u8.wrap (n : Int) = ((n % 256 : Nat) : Int) := by
  simp [IntKind.wrap, IntKind.bits, IntKind.signed]
theorem u8_of_nat (n : Nat) : IntKind.u8.wrap (n : Int) = ((UInt8.ofNat n).toNat : Int) := by
  rw [wrap_u8]; simp
theorem fill_set {α : Type} (xs : List α) (z : α) {i : Nat} (h : i < xs.length) : (xs.take i ++ List.replicate (xs.length - i) z).set i xs[i] = xs.take (i + 1) ++ List.replicate (xs.length - (i + 1)) z := by
  have e : xs.length - i = (xs.length - (i + 1)) + 1 := by omega
  rw [e, List.replicate_succ, List.set_append_right _ _ (by simp; omega)]
  have : i - (xs.take i).length = 0 := by simp; omega
  rw [this, List.set_cons_zero, List.take_succ_eq_append_getElem h, List.append_assoc]
  rfl
def szL {α : Type} (sz : α → Nat) (xs : List α) : Nat := (xs.map sz).sum
theorem szL_take_succ {α : Type} (sz : α → Nat) {xs : List α} {i : Nat} (h : i < xs.length) : szL sz (xs.take (i + 1)) = szL sz (xs.take i) + sz xs[i] := by
  unfold szL
  rw [List.take_succ_eq_append_getElem h, List.map_append, List.sum_append]; simp
theorem szL_take_le {α : Type} (sz : α → Nat) (xs : List α) (i : Nat) : szL sz (xs.take i) ≤ szL sz xs := by
  have : xs.map sz = (xs.take i).map sz ++ (xs.drop i).map sz := by rw [← List.map_append, List.take_append_drop]
  unfold szL
  rw [this, List.sum_append]; omega
end Go.Ev
