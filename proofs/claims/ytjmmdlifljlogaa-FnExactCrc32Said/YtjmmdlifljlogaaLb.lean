/- Words for the contracts: rows of bytes, loops that count up. -/
import Derived.Test.YtjmmdlifljlogaaEvd
import Derived.Test.YtjmmdlifljlogaaEvm
set_option linter.unusedSimpArgs false
namespace Go.Ev
open Go Go.RowKit
def rowB (bs : List UInt8) : AV := .row 5 1 (bytesA bs)
theorem bytesA_length (bs : List UInt8) : (bytesA bs).length = bs.length := by simp [bytesA]
theorem bytesA_at {bs : List UInt8} {i : Nat} (h : i < bs.length) : (bytesA bs)[i]? = some [.v (.int .u8 bs[i].toNat)] := by simp [bytesA, byteC, h]
theorem bytesA_set (bs : List UInt8) (i : Nat) (b : UInt8) : (bytesA bs).set i [.v (.int .u8 b.toNat)] = bytesA (bs.set i b) := by simp [bytesA, byteC, List.map_set]
theorem bytesA_zeros (n : Nat) : List.replicate n [AV.v (.int .u8 0)] = bytesA (List.replicate n 0) := by simp [bytesA, byteC]
theorem bytesA_append (a b : List UInt8) : bytesA a ++ bytesA b = bytesA (a ++ b) := by simp [bytesA]
theorem bytesA_drop (a : List UInt8) (i : Nat) : (bytesA a).drop i = bytesA (a.drop i) := by simp [bytesA]
theorem bytesA_take (a : List UInt8) (i : Nat) : (bytesA a).take i = bytesA (a.take i) := by simp [bytesA]
theorem pureEls_bytes : ∀ bs : List UInt8, pureEls (bytesA bs)
  | [] => trivial
  | b :: bs => ⟨⟨trivial, trivial⟩, pureEls_bytes bs⟩
theorem pure_rowB (bs : List UInt8) : (rowB bs).pure := pureEls_bytes bs
theorem wrap_i64_of {n : Int} (h : -9223372036854775808 ≤ n) (h' : n ≤ 9223372036854775807) : IntKind.i64.wrap n = n := by rw [IntKind.wrap_i64]; omega
theorem wrap_succ {i : Nat} (h : i < 4611686018427387904) : IntKind.i64.wrap ((i : Int) + 1) = ((i + 1 : Nat) : Int) := by rw [IntKind.wrap_i64]; omega
/-- A row is filled from the left. -/
theorem fill_set {α : Type} (xs : List α) (z : α) {i : Nat} (h : i < xs.length) : (xs.take i ++ List.replicate (xs.length - i) z).set i xs[i] = xs.take (i + 1) ++ List.replicate (xs.length - (i + 1)) z := by
  have e : xs.length - i = (xs.length - (i + 1)) + 1 := by omega
  rw [e, List.replicate_succ, List.set_append_right _ _ (by simp; omega)]
  have : i - (xs.take i).length = 0 := by simp; omega
  rw [this, List.set_cons_zero, List.take_succ_eq_append_getElem h, List.append_assoc]
  rfl
attribute [go_sem] rowB bytesA_length bytesA_append bytesA_drop bytesA_take bytesA_set bytesA_zeros List.set_cons_zero List.set_cons_succ Option.map_some AV.v.injEq Value.int.injEq Value.bool.injEq
end Go.Ev
