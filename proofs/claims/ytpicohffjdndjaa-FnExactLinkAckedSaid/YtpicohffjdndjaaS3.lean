/- Contracts: a link's far end. -/
import Derived.Test.YtpicohffjdndjaaS2
set_option linter.unusedSimpArgs false
set_option linter.unusedVariables false
namespace Go.Ev
open Go Go.RowKit Go.Proofs
structure LI where
  a : Int
  b : Int
  h : List Pk
  f : List UInt8
def liC (T : Nat) (x : LI) : List AV := [.v (.int .i64 x.a), .v (.int .i64 x.b), .row T 6 (ra pkC x.h), .row 5 1 (bytesA x.f)]
def liW (x : LI) : Nat := x.h.length + szL pkW x.h + x.f.length
theorem mem_szL {α : Type} (W : α → Nat) {xs : List α} {b : α} (h : b ∈ xs) : W b ≤ szL W xs := by
  obtain ⟨i, hi, rfl⟩ := List.mem_iff_getElem.1 h
  have := szL_at_le W hi
  omega
def liAt (x : LI) (i : Nat) (h : i < x.h.length) : Prop := okPk x.h[i] ∧ x.h[i].a = 1 ∧ x.h[i].b = x.a ∧ x.b < x.h[i].c ∧ x.h[i].c < x.b + 8 ∧ (i = 0 ∨ ∃ h0 : i - 1 < x.h.length, x.h[i - 1].c < x.h[i].c)
def okLI (x : LI) : Prop := (0 ≤ x.a ∧ x.a ≤ 1000000000 ∧ 0 ≤ x.b ∧ x.b ≤ 1000000000000 ∧ x.f.length ≤ 20000) ∧ ∀ i (h : i < x.h.length), liAt x i h
noncomputable def liB (x : LI) : Bool := @decide (okLI x) (Classical.propDecidable _)
theorem li_f {x : LI} (h : ¬ okLI x) : false = liB x := (@decide_eq_false _ (Classical.propDecidable _) h).symm
theorem li_t {x : LI} (h : okLI x) : true = liB x := (@decide_eq_true _ (Classical.propDecidable _) h).symm
end Go.Ev
