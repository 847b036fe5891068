/- A law's arguments: streams. -/
import Derived.Test.YtpicohffjdndjaaOg
import Derived.Test.YtpicohffjdndjaaY1
set_option linter.unusedSimpArgs false
set_option linter.unusedVariables false
namespace Go.Ev
open Go Go.RowKit Go.Proofs
attribute [local irreducible] Opens OpensG
theorem opY_bss : Opens Try.prog 22 (fun xs : List (List UInt8) => [.row 37 1 (ra byC xs)]) (fun xs => xs.length ≤ 140737488355328 ∧ ∀ b ∈ xs, b.length ≤ 140737488355328) := by
  have h := Opens.slice Try.underlying22 (sz := 1) (by kernel_rfl) (by decide) (by_ := 24) (by kernel_rfl) (by decide) opF_bytes (fun _ => rfl) (fun a c hc => by simp at hc; rw [hc]; trivial)
  exact Opens.map id (fun _ => rfl) (fun a h => ⟨by have := h.1; have := reach_leF; show a.length ≤ _; omega, h.2⟩) h
theorem opY_bsss : Opens Try.prog 77 (fun xs : List (List (List UInt8)) => [.row 22 1 (ra bbC xs)]) (fun xs => xs.length ≤ 140737488355328 ∧ ∀ b ∈ xs, b.length ≤ 140737488355328 ∧ ∀ c ∈ b, c.length ≤ 140737488355328) := by
  have h := Opens.slice Try.underlying77 (sz := 1) (by kernel_rfl) (by decide) (by_ := 24) (by kernel_rfl) (by decide) opY_bss (fun _ => rfl) (fun a c hc => by simp at hc; rw [hc]; trivial)
  exact Opens.map id (fun _ => rfl) (fun a h => ⟨by have := h.1; have := reach_leF; show a.length ≤ _; omega, h.2⟩) h
theorem opY_sm : Opens Try.prog 79 (smC 120) (fun x => x.fs.length ≤ 140737488355328 ∧ (∀ b ∈ x.fs, b.f.length ≤ 140737488355328) ∧ x.ds.length ≤ 140737488355328 ∧ ∀ b ∈ x.ds, b.length ≤ 140737488355328 ∧ ∀ c ∈ b, c.length ≤ 140737488355328) := by
  have h := Opens.struct Try.underlying79 (tot := 4) (by kernel_rfl) (OpensG.cons (k := 1) rfl (by kernel_rfl) opF_bool (OpensG.cons (k := 1) rfl (by kernel_rfl) opF_fds (OpensG.cons (k := 1) rfl (by kernel_rfl) opF_int (OpensG.cons (k := 1) rfl (by kernel_rfl) opY_bsss OpensG.nil))))
  exact Opens.map (fun x : Bool × List Fd × Int × List (List (List UInt8)) × Unit => (⟨x.1, x.2.1, x.2.2.1, x.2.2.2.1⟩ : Sm)) (fun _ => rfl) (fun a h => ⟨h.2.1.1, h.2.1.2, h.2.2.2.1⟩) h
end Go.Ev
