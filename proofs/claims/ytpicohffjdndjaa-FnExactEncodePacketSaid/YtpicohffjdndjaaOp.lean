/- A law's arguments: packets. -/
import Derived.Test.YtpicohffjdndjaaOg
import Derived.Test.YtpicohffjdndjaaS1
set_option linter.unusedSimpArgs false
set_option linter.unusedVariables false
namespace Go.Ev
open Go Go.RowKit Go.Proofs
attribute [local irreducible] Opens OpensG
theorem opF_pk : Opens Try.prog 39 pkC (fun p => p.f.length ≤ 140737488355328) := by
  have h := Opens.struct Try.underlying39 (tot := 6) (by kernel_rfl) (OpensG.cons (k := 1) rfl (by kernel_rfl) opF_int (OpensG.cons (k := 1) rfl (by kernel_rfl) opF_int (OpensG.cons (k := 1) rfl (by kernel_rfl) opF_int (OpensG.cons (k := 1) rfl (by kernel_rfl) opF_int (OpensG.cons (k := 1) rfl (by kernel_rfl) opF_bool (OpensG.cons (k := 1) rfl (by kernel_rfl) opF_bytes OpensG.nil))))))
  exact Opens.map (fun x : Int × Int × Int × Int × Bool × List UInt8 × Unit => (⟨x.1, x.2.1, x.2.2.1, x.2.2.2.1, x.2.2.2.2.1, x.2.2.2.2.2.1⟩ : Pk)) (fun _ => rfl) (fun a h => h.2.2.2.2.2.1) h
end Go.Ev
