/- Part 13 of what the row leans on: the evaluator, words, contracts of functions; pruned by a program of ours. -/
import Derived.Test.YtijmbcnhkdhkeaaPd12
import Derived.Test.YtijmbcnhkdhkeaaRows
set_option linter.unusedSimpArgs false
set_option linter.unusedVariables false
namespace Go.Ev
open Go Go.RowKit Go.Proofs
attribute [local irreducible] Opens OpensG
theorem reach_leF : reachBytes ≤ 140737488355328 := by decide
theorem opF_int : Opens Try.prog 3 (fun n : Int => [.v (.int .i64 n)]) (fun n => (Lit.int .i64 n).wf = true) := Opens.int Try.underlying3
theorem opF_bool : Opens Try.prog 4 (fun b : Bool => [.v (.bool b)]) (fun _ => True) := Opens.bool Try.underlying4
theorem opF_bytes : Opens Try.prog 25 (fun b : List UInt8 => [.row 5 1 (bytesA b)]) (fun b => b.length ≤ 140737488355328) :=
  Opens.map id (fun _ => rfl) (fun a h => by have := h.1; have := reach_leF; show a.length ≤ _; omega) (Opens.slice Try.underlying25 (sz := 1) (by kernel_rfl) (by decide) (by_ := 1) (by kernel_rfl) (by decide) (Opens.u8 Try.underlying5) (fun _ => rfl) (fun a c hc => by simp [byteC] at hc; rw [hc]; trivial))
theorem wfF_i64 {n : Int} (h : (Lit.int .i64 n).wf = true) : -9223372036854775808 ≤ n ∧ n ≤ 9223372036854775807 := by
  simpa [Lit.wf, IntKind.min, IntKind.max, IntKind.signed, IntKind.bits] using h
theorem opF_cl : Opens Try.prog 145 clC (fun p => p.f.length ≤ 140737488355328 ∧ -9223372036854775808 ≤ p.i ∧ p.i ≤ 9223372036854775807) := by
  have h := Opens.struct Try.underlying145 (tot := 3) (by kernel_rfl) (OpensG.cons (k := 1) rfl (by kernel_rfl) opF_bool (OpensG.cons (k := 1) rfl (by kernel_rfl) opF_int (OpensG.cons (k := 1) rfl (by kernel_rfl) opF_bytes OpensG.nil)))
  exact Opens.map (fun x : Bool × Int × List UInt8 × Unit => (⟨x.1, x.2.1, x.2.2.1⟩ : Cl)) (fun _ => rfl) (fun a h => ⟨h.2.2.1, wfF_i64 h.2.1⟩) h
theorem opF_cls : Opens Try.prog 40 (fun ps : List Cl => [.row 145 3 (ra clC ps)]) (fun ps => ps.length ≤ 140737488355328 ∧ ∀ p ∈ ps, p.f.length ≤ 140737488355328 ∧ -9223372036854775808 ≤ p.i ∧ p.i ≤ 9223372036854775807) := by
  have h := Opens.slice Try.underlying40 (sz := 3) (by kernel_rfl) (by decide) (by_ := 40) (by kernel_rfl) (by decide) opF_cl (fun _ => rfl) (fun a c hc => by simp [clC] at hc; rcases hc with rfl | rfl | rfl <;> trivial)
  exact Opens.map id (fun _ => rfl) (fun a h => ⟨by have := h.1; have := reach_leF; show a.length ≤ _; omega, h.2⟩) h
end Go.Ev
