/- Words for the contracts: rows of elements, numbers, loops that count up. -/
import Derived.Test.YtijmbcnhkdhkeaaEvd
import Derived.Test.YtijmbcnhkdhkeaaEvr
set_option linter.unusedSimpArgs false
set_option linter.unusedVariables false
namespace Go.Ev
open Go Go.RowKit
/-- The way that is not gone. -/
theorem ifB'.no {p : Prop} [Decidable p] {a b : Prop} {h1 : Fix a} {h2 : Fix b} (h : ¬ p) (h' : b) : ifB' (decide p) a b h1 h2 := ifB'.of (fun x => absurd x h) (fun _ => h')
theorem ifB'.yes {p : Prop} [Decidable p] {a b : Prop} {h1 : Fix a} {h2 : Fix b} (h : p) (h' : a) : ifB' (decide p) a b h1 h2 := ifB'.of (fun _ => h') (fun x => absurd h x)
/-! ### rows -/
def ra {α : Type} (enc : α → List AV) (xs : List α) : List (List AV) := xs.map enc
section
variable {α : Type} {enc : α → List AV}
theorem ra_length (xs : List α) : (ra enc xs).length = xs.length := by simp [ra]
theorem ra_at {xs : List α} {i : Nat} (h : i < xs.length) : (ra enc xs)[i]? = some (enc xs[i]) := by simp [ra, h]
theorem ra_at' {xs : List α} {i : Nat} {x : α} (h : xs[i]? = some x) : (ra enc xs)[i]? = some (enc x) := by simp [ra, h]
theorem ra_set (xs : List α) (i : Nat) (x : α) : (ra enc xs).set i (enc x) = ra enc (xs.set i x) := by simp [ra, List.map_set]
theorem ra_append (a b : List α) : ra enc a ++ ra enc b = ra enc (a ++ b) := by simp [ra]
theorem ra_drop (a : List α) (i : Nat) : (ra enc a).drop i = ra enc (a.drop i) := by simp [ra]
theorem ra_take (a : List α) (i : Nat) : (ra enc a).take i = ra enc (a.take i) := by simp [ra]
theorem ra_nil : ra enc ([] : List α) = [] := rfl
theorem ra_rep (n : Nat) (x : α) : List.replicate n (enc x) = ra enc (List.replicate n x) := by simp [ra]
theorem pureEls_ra (h : ∀ x, pureCs (enc x)) : ∀ xs : List α, pureEls (ra enc xs)
  | [] => trivial
  | x :: xs => ⟨h x, pureEls_ra h xs⟩
theorem flat_ra (h : ∀ x, ∀ c ∈ enc x, ∃ u, c = .v u) (xs : List α) : flatE (ra enc xs) := fun e he => by
  obtain ⟨x, _, rfl⟩ := List.mem_map.1 (show e ∈ xs.map enc from he)
  exact h x
end
def boolC (b : Bool) : List AV := [.v (.bool b)]
def intC (n : Int) : List AV := [.v (.int .i64 n)]
theorem bytesA_ra (bs : List UInt8) : bytesA bs = ra byteC bs := rfl
def rowB (bs : List UInt8) : AV := .row 5 1 (bytesA bs)
theorem bytesA_length (bs : List UInt8) : (bytesA bs).length = bs.length := by simp [bytesA]
theorem bytesA_at {bs : List UInt8} {i : Nat} (h : i < bs.length) : (bytesA bs)[i]? = some [.v (.int .u8 bs[i].toNat)] := by simp [bytesA, byteC, h]
theorem bytesA_at' {bs : List UInt8} {i : Nat} {b : UInt8} (h : bs[i]? = some b) : (bytesA bs)[i]? = some [.v (.int .u8 b.toNat)] := by simp [bytesA, byteC, h]
theorem bytesA_set (bs : List UInt8) (i : Nat) (b : UInt8) : (bytesA bs).set i [.v (.int .u8 b.toNat)] = bytesA (bs.set i b) := by simp [bytesA, byteC, List.map_set]
theorem bytesA_zeros (n : Nat) : List.replicate n [AV.v (.int .u8 0)] = bytesA (List.replicate n 0) := by simp [bytesA, byteC]
theorem bytesA_append (a b : List UInt8) : bytesA a ++ bytesA b = bytesA (a ++ b) := by simp [bytesA]
theorem bytesA_drop (a : List UInt8) (i : Nat) : (bytesA a).drop i = bytesA (a.drop i) := by simp [bytesA]
theorem bytesA_take (a : List UInt8) (i : Nat) : (bytesA a).take i = bytesA (a.take i) := by simp [bytesA]
theorem bytesA_nil : bytesA [] = [] := rfl
theorem bytesA_one (b : UInt8) : [[AV.v (.int .u8 b.toNat)]] = bytesA [b] := rfl
theorem flat_bytes (bs : List UInt8) : flatE (bytesA bs) := flat_ra (enc := byteC) (fun b c hc => by simp [byteC] at hc; exact ⟨_, hc⟩) bs
def rowO (bs : List Bool) : AV := .row 4 1 (ra boolC bs)
def rowI (ns : List Int) : AV := .row 3 1 (ra intC ns)
theorem boolA_at {bs : List Bool} {i : Nat} (h : i < bs.length) : (ra boolC bs)[i]? = some [.v (.bool bs[i])] := ra_at h
theorem boolA_at' {bs : List Bool} {i : Nat} {b : Bool} (h : bs[i]? = some b) : (ra boolC bs)[i]? = some [.v (.bool b)] := ra_at' h
theorem boolA_set (bs : List Bool) (i : Nat) (b : Bool) : (ra boolC bs).set i [.v (.bool b)] = ra boolC (bs.set i b) := ra_set bs i b
theorem boolA_zeros (n : Nat) : List.replicate n [AV.v (.bool false)] = ra boolC (List.replicate n false) := by simp [ra, boolC]
theorem boolA_one (b : Bool) : [[AV.v (.bool b)]] = ra boolC [b] := rfl
theorem intA_at {bs : List Int} {i : Nat} (h : i < bs.length) : (ra intC bs)[i]? = some [.v (.int .i64 bs[i])] := ra_at h
theorem intA_at' {bs : List Int} {i : Nat} {b : Int} (h : bs[i]? = some b) : (ra intC bs)[i]? = some [.v (.int .i64 b)] := ra_at' h
theorem intA_set (bs : List Int) (i : Nat) (b : Int) : (ra intC bs).set i [.v (.int .i64 b)] = ra intC (bs.set i b) := ra_set bs i b
theorem intA_zeros (n : Nat) : List.replicate n [AV.v (.int .i64 0)] = ra intC (List.replicate n 0) := by simp [ra, intC]
theorem intA_one (b : Int) : [[AV.v (.int .i64 b)]] = ra intC [b] := rfl
theorem pureEls_bytes (bs : List UInt8) : pureEls (bytesA bs) := pureEls_ra (enc := byteC) (fun _ => ⟨trivial, trivial⟩) bs
theorem pure_rowB (bs : List UInt8) : (rowB bs).pure := pureEls_bytes bs
theorem pure_rowO (bs : List Bool) : (rowO bs).pure := pureEls_ra (enc := boolC) (fun _ => ⟨trivial, trivial⟩) bs
theorem pure_rowI (bs : List Int) : (rowI bs).pure := pureEls_ra (enc := intC) (fun _ => ⟨trivial, trivial⟩) bs
/-- Rows of bytes in a row. -/
def byC (bs : List UInt8) : List AV := [.row 5 1 (bytesA bs)]
def rowBB (xs : List (List UInt8)) : AV := .row 25 1 (ra byC xs)
theorem byA_at {xs : List (List UInt8)} {i : Nat} (h : i < xs.length) : (ra byC xs)[i]? = some [.row 5 1 (bytesA xs[i])] := ra_at h
theorem byA_at' {xs : List (List UInt8)} {i : Nat} {b : List UInt8} (h : xs[i]? = some b) : (ra byC xs)[i]? = some [.row 5 1 (bytesA b)] := ra_at' h
theorem byA_set (xs : List (List UInt8)) (i : Nat) (b : List UInt8) : (ra byC xs).set i [.row 5 1 (bytesA b)] = ra byC (xs.set i b) := ra_set xs i b
theorem byA_zeros (n : Nat) : List.replicate n [AV.row 5 1 []] = ra byC (List.replicate n []) := by simp [ra, byC, bytesA]
theorem byA_one (b : List UInt8) : [[AV.row 5 1 (bytesA b)]] = ra byC [b] := rfl
theorem pure_byC (x : List UInt8) : pureCs (byC x) := ⟨pureEls_bytes x, trivial⟩
theorem pure_rowBB (xs : List (List UInt8)) : (rowBB xs).pure := pureEls_ra (enc := byC) pure_byC xs
theorem bytesA_snoc (xs : List UInt8) (b : UInt8) : bytesA xs ++ [[.v (.int .u8 b.toNat)]] = bytesA (xs ++ [b]) := by simp [bytesA, byteC]
theorem bytesA_snoc0 (xs : List UInt8) : bytesA xs ++ [[.v (.int .u8 0)]] = bytesA (xs ++ [0]) := by simp [bytesA, byteC]
theorem boolA_snoc (xs : List Bool) (b : Bool) : ra boolC xs ++ [[.v (.bool b)]] = ra boolC (xs ++ [b]) := by simp [ra, boolC]
theorem intA_snoc (xs : List Int) (b : Int) : ra intC xs ++ [[.v (.int .i64 b)]] = ra intC (xs ++ [b]) := by simp [ra, intC]
theorem byA_snoc (xs : List (List UInt8)) (b : List UInt8) : ra byC xs ++ [[.row 5 1 (bytesA b)]] = ra byC (xs ++ [b]) := by simp [ra, byC]
theorem snoc_range {α : Type} (f : Nat → α) (i : Nat) {y : α} (h : y = f i) : (List.range i).map f ++ [y] = (List.range (i + 1)).map f := by simp [List.range_succ, h]
theorem int_one : ((1 : Nat) : Int) = 1 := rfl
theorem int_zero : ((0 : Nat) : Int) = 0 := rfl
theorem bytesA_asrw (o : Org) (xs : List UInt8) : (bytesA xs).map (List.map (AV.asrw o)) = bytesA xs := by simp [bytesA, byteC, AV.asrw]
theorem boolA_asrw (o : Org) (xs : List Bool) : (ra boolC xs).map (List.map (AV.asrw o)) = ra boolC xs := by simp [ra, boolC, AV.asrw]
theorem intA_asrw (o : Org) (xs : List Int) : (ra intC xs).map (List.map (AV.asrw o)) = ra intC xs := by simp [ra, intC, AV.asrw]
attribute [go_sem] bytesA_asrw boolA_asrw intA_asrw
theorem int_left : ((1048576 : Nat) : Int) = 1048576 := rfl
attribute [go_sem] int_one int_zero int_left
attribute [go_sem] bytesA_snoc bytesA_snoc0 boolA_snoc intA_snoc byA_snoc
attribute [go_sem] rowB rowO rowI rowBB bytesA_length bytesA_append bytesA_drop bytesA_take bytesA_set bytesA_zeros ra_length ra_append ra_drop ra_take boolA_set boolA_zeros intA_set intA_zeros byA_set byA_zeros List.set_cons_zero List.set_cons_succ Option.map_some AV.v.injEq Value.int.injEq Value.bool.injEq
/-! ### numbers -/
theorem wrap_i64_of {n : Int} (h : -9223372036854775808 ≤ n) (h' : n ≤ 9223372036854775807) : IntKind.i64.wrap n = n := by rw [IntKind.wrap_i64]; omega
theorem wrap_succ {i : Nat} (h : i < 4611686018427387904) : IntKind.i64.wrap ((i : Int) + 1) = ((i + 1 : Nat) : Int) := by rw [IntKind.wrap_i64]; omega
theorem wrap_nat {n : Nat} (h : n ≤ 9223372036854775807) : IntKind.i64.wrap (n : Int) = (n : Int) := by rw [IntKind.wrap_i64]; omega
theorem wrap_u32 (n : Nat) : IntKind.u32.wrap (n : Int) = ((n % 4294967296 : Nat) : Int) := by
  simp [IntKind.wrap, IntKind.bits, IntKind.signed]
theorem wrap_u8 (n : Nat) : IntKind.u8.wrap (n : Int) = ((n % 256 : Nat) : Int) := by
  simp [IntKind.wrap, IntKind.bits, IntKind.signed]
theorem u8_of_nat (n : Nat) : IntKind.u8.wrap (n : Int) = ((UInt8.ofNat n).toNat : Int) := by
  rw [wrap_u8]; simp
/-! ### rows that grow -/
/-- A row is filled from the left. -/
theorem fill_set {α : Type} (xs : List α) (z : α) {i : Nat} (h : i < xs.length) : (xs.take i ++ List.replicate (xs.length - i) z).set i xs[i] = xs.take (i + 1) ++ List.replicate (xs.length - (i + 1)) z := by
  have e : xs.length - i = (xs.length - (i + 1)) + 1 := by omega
  rw [e, List.replicate_succ, List.set_append_right _ _ (by simp; omega)]
  have : i - (xs.take i).length = 0 := by simp; omega
  rw [this, List.set_cons_zero, List.take_succ_eq_append_getElem h, List.append_assoc]
  rfl
theorem take_succ {α : Type} {xs : List α} {i : Nat} (h : i < xs.length) : xs.take (i + 1) = xs.take i ++ [xs[i]] := List.take_succ_eq_append_getElem h
/-! ### elements that weigh -/
def szL {α : Type} (sz : α → Nat) (xs : List α) : Nat := (xs.map sz).sum
theorem szL_nil {α : Type} (sz : α → Nat) : szL sz [] = 0 := rfl
theorem szL_take_succ {α : Type} (sz : α → Nat) {xs : List α} {i : Nat} (h : i < xs.length) : szL sz (xs.take (i + 1)) = szL sz (xs.take i) + sz xs[i] := by
  unfold szL
  rw [List.take_succ_eq_append_getElem h, List.map_append, List.sum_append]; simp
theorem szL_take_le {α : Type} (sz : α → Nat) (xs : List α) (i : Nat) : szL sz (xs.take i) ≤ szL sz xs := by
  have : xs.map sz = (xs.take i).map sz ++ (xs.drop i).map sz := by rw [← List.map_append, List.take_append_drop]
  unfold szL
  rw [this, List.sum_append]; omega
theorem szL_at_le {α : Type} (sz : α → Nat) {xs : List α} {i : Nat} (h : i < xs.length) : szL sz (xs.take i) + sz xs[i] ≤ szL sz xs := by
  rw [← szL_take_succ sz h]; exact szL_take_le sz xs _
def mkL {α : Type} (mk : Nat → α → α) (sz : α → Nat) : Nat → List α → List α
  | _, [] => []
  | k, x :: xs => mk k x :: mkL mk sz (k + sz x) xs
theorem mkL_length {α : Type} (mk : Nat → α → α) (sz : α → Nat) : ∀ (k : Nat) (xs : List α), (mkL mk sz k xs).length = xs.length
  | _, [] => rfl
  | k, x :: xs => by simp [mkL, mkL_length mk sz _ xs]
theorem mkL_at {α : Type} (mk : Nat → α → α) (sz : α → Nat) : ∀ (k : Nat) {xs : List α} {i : Nat} (h : i < xs.length), (mkL mk sz k xs)[i]? = some (mk (k + szL sz (xs.take i)) xs[i])
  | k, x :: xs, 0, _ => by simp [mkL, szL]
  | k, x :: xs, i + 1, h => by
    have := mkL_at mk sz (k + sz x) (xs := xs) (i := i) (by simpa using h)
    simp [mkL, this, szL, Nat.add_assoc]
/-- What of a row is turned. -/
def mkLP {α : Type} (mk : Nat → α → α) (sz : α → Nat) (k : Nat) (xs : List α) (i : Nat) : List α := (mkL mk sz k xs).take i ++ xs.drop i
theorem mkLP_zero {α : Type} (mk : Nat → α → α) (sz : α → Nat) (k : Nat) (xs : List α) : mkLP mk sz k xs 0 = xs := by simp [mkLP]
theorem mkLP_full {α : Type} (mk : Nat → α → α) (sz : α → Nat) (k : Nat) (xs : List α) : mkLP mk sz k xs xs.length = mkL mk sz k xs := by
  have := mkL_length mk sz k xs
  simp [mkLP, ← this]
theorem mkLP_length {α : Type} (mk : Nat → α → α) (sz : α → Nat) (k : Nat) {xs : List α} {i : Nat} (h : i ≤ xs.length) : (mkLP mk sz k xs i).length = xs.length := by
  simp [mkLP, mkL_length]; omega
theorem mkLP_at {α : Type} (mk : Nat → α → α) (sz : α → Nat) (k : Nat) {xs : List α} {i : Nat} (h : i < xs.length) : (mkLP mk sz k xs i)[i]? = some xs[i] := by
  rw [mkLP, List.getElem?_append_right (by simp [mkL_length]; omega)]
  have : i - ((mkL mk sz k xs).take i).length = 0 := by simp [mkL_length]; omega
  rw [this]; simp [h]
theorem mkLP_set {α : Type} (mk : Nat → α → α) (sz : α → Nat) (k : Nat) {xs : List α} {i : Nat} (h : i < xs.length) {y : α} (hy : y = mk (k + szL sz (xs.take i)) xs[i]) : (mkLP mk sz k xs i).set i y = mkLP mk sz k xs (i + 1) := by
  have hl : i < (mkL mk sz k xs).length := by rw [mkL_length]; exact h
  have h1 := mkL_at mk sz k h
  rw [List.getElem?_eq_getElem hl] at h1
  rw [mkLP, mkLP, List.set_append_right _ _ (by simp; omega), List.take_succ_eq_append_getElem hl, List.append_assoc]
  have : i - ((mkL mk sz k xs).take i).length = 0 := by simp [mkL_length]; omega
  rw [this, List.drop_eq_getElem_cons h, hy, ← Option.some.inj h1]
  rfl
def szR (left tot : Nat) : Int := if tot ≤ left then ((left - tot : Nat) : Int) else -1
theorem szR_ok {left tot : Nat} (h : tot ≤ left) : szR left tot = ((left - tot : Nat) : Int) := if_pos h
theorem szR_no {left tot : Nat} (h : ¬ tot ≤ left) : szR left tot = -1 := if_neg h
/-- A row is turned from the left. -/
def mkPre {α : Type} (f : Nat → α) (xs : List α) (i : Nat) : List α := (List.range i).map f ++ xs.drop i
theorem mkPre_zero {α : Type} (f : Nat → α) (xs : List α) : mkPre f xs 0 = xs := by simp [mkPre]
theorem mkPre_full {α : Type} (f : Nat → α) (xs : List α) : mkPre f xs xs.length = (List.range xs.length).map f := by simp [mkPre]
theorem mkPre_length {α : Type} (f : Nat → α) {xs : List α} {i : Nat} (h : i ≤ xs.length) : (mkPre f xs i).length = xs.length := by simp [mkPre]; omega
theorem mkPre_set {α : Type} (f : Nat → α) (xs : List α) {i : Nat} (h : i < xs.length) {y : α} (hy : y = f i) : (mkPre f xs i).set i y = mkPre f xs (i + 1) := by
  subst hy
  unfold mkPre
  rw [List.set_append_right _ _ (by simp), List.range_succ, List.map_append, List.append_assoc]
  have : i - ((List.range i).map f).length = 0 := by simp
  rw [this, List.drop_eq_getElem_cons h]
  rfl
end Go.Ev
