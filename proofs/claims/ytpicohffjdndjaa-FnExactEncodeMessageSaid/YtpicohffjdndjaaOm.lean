/- A law's arguments: messages. -/
import Derived.Test.YtpicohffjdndjaaOg
import Derived.Test.YtpicohffjdndjaaM1
set_option linter.unusedSimpArgs false
set_option linter.unusedVariables false
namespace Go.Ev
open Go Go.RowKit Go.Proofs
attribute [local irreducible] Opens OpensG
theorem opF_bss : Opens Try.prog 22 (fun xs : List (List UInt8) => [.row 37 1 (ra byC xs)]) (fun xs => xs.length ≤ 140737488355328 ∧ ∀ b ∈ xs, b.length ≤ 140737488355328) := by
  have h := Opens.slice Try.underlying22 (sz := 1) (by kernel_rfl) (by decide) (by_ := 24) (by kernel_rfl) (by decide) opF_bytes (fun _ => rfl) (fun a c hc => by simp at hc; rw [hc]; trivial)
  exact Opens.map id (fun _ => rfl) (fun a h => ⟨by have := h.1; have := reach_leF; show a.length ≤ _; omega, h.2⟩) h
theorem opF_ms : Opens Try.prog 69 msC (fun x => x.bs.length ≤ 140737488355328 ∧ ∀ b ∈ x.bs, b.length ≤ 140737488355328) := by
  have h := Opens.struct Try.underlying69 (tot := 4) (by kernel_rfl) (OpensG.cons (k := 1) rfl (by kernel_rfl) opF_int (OpensG.cons (k := 1) rfl (by kernel_rfl) opF_int (OpensG.cons (k := 1) rfl (by kernel_rfl) opF_int (OpensG.cons (k := 1) rfl (by kernel_rfl) opF_bss OpensG.nil))))
  exact Opens.map (fun x : Int × Int × Int × List (List UInt8) × Unit => (⟨x.1, x.2.1, x.2.2.1, x.2.2.2.1⟩ : Ms)) (fun _ => rfl) (fun a h => h.2.2.2.1) h
end Go.Ev
