/- A law's arguments: tables. -/
import Derived.Test.YtpicohffjdndjaaOg
import Derived.Test.YtpicohffjdndjaaT2
set_option linter.unusedSimpArgs false
set_option linter.unusedVariables false
namespace Go.Ev
open Go Go.RowKit Go.Proofs
attribute [local irreducible] Opens OpensG
theorem opF_tb : Opens Try.prog 111 (tbC 184) (fun x => x.c.length ≤ 140737488355328 ∧ ∀ p ∈ x.c, p.f.length ≤ 140737488355328 ∧ -9223372036854775808 ≤ p.i ∧ p.i ≤ 9223372036854775807) := by
  have h := Opens.struct Try.underlying111 (tot := 2) (by kernel_rfl) (OpensG.cons (k := 1) rfl (by kernel_rfl) opF_int (OpensG.cons (k := 1) rfl (by kernel_rfl) opF_cls OpensG.nil))
  exact Opens.map (fun x : Int × List Cl × Unit => (⟨x.1, x.2.1⟩ : Tb)) (fun _ => rfl) (fun a h => h.2.1) h
end Go.Ev
