/- A law's arguments: a link's near end. -/
import Derived.Test.YtjmmdlifljlogaaOd
import Derived.Test.YtjmmdlifljlogaaS5
set_option linter.unusedSimpArgs false
set_option linter.unusedVariables false
namespace Go.Ev
open Go Go.RowKit Go.Proofs
attribute [local irreducible] Opens OpensG
theorem op_sn : Opens Try.prog 127 snC (fun s => s.p.f.length ≤ 140737488355328) := by
  have h := Opens.struct Try.underlying127 (tot := 7) (by kernel_rfl) (OpensG.cons (k := 6) rfl (by kernel_rfl) op_pk (OpensG.cons (k := 1) rfl (by kernel_rfl) op_int OpensG.nil))
  exact Opens.map (fun x : Pk × Int × Unit => (⟨x.1, x.2.1⟩ : Sn)) (fun _ => rfl) (fun a h => h.1) h
theorem op_sns : Opens Try.prog 72 (fun ps : List Sn => [.row 127 7 (ra snC ps)]) (fun ps => ps.length ≤ 140737488355328 ∧ ∀ p ∈ ps, p.p.f.length ≤ 140737488355328) := by
  have h := Opens.slice Try.underlying72 (sz := 7) (by kernel_rfl) (by decide) (by_ := 72) (by kernel_rfl) (by decide) op_sn (fun _ => rfl) (fun a c hc => by simp [snC] at hc; rcases hc with rfl | rfl | rfl | rfl | rfl | rfl | rfl <;> trivial)
  exact Opens.map id (fun _ => rfl) (fun a h => ⟨by have := h.1; have := reach_le; show a.length ≤ _; omega, h.2⟩) h
theorem op_lo : Opens Try.prog 74 (loC 127) (fun x => x.h.length ≤ 140737488355328 ∧ (∀ b ∈ x.h, b.p.f.length ≤ 140737488355328)) := by
  have h := Opens.struct Try.underlying74 (tot := 4) (by kernel_rfl) (OpensG.cons (k := 1) rfl (by kernel_rfl) op_int (OpensG.cons (k := 1) rfl (by kernel_rfl) op_int (OpensG.cons (k := 1) rfl (by kernel_rfl) op_int (OpensG.cons (k := 1) rfl (by kernel_rfl) op_sns OpensG.nil))))
  exact Opens.map (fun x : Int × Int × Int × List Sn × Unit => (⟨x.1, x.2.1, x.2.2.1, x.2.2.2.1⟩ : LO)) (fun _ => rfl) (fun a h => h.2.2.2.1) h
end Go.Ev
