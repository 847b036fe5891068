/- Part 18 of what the row leans on: the evaluator, words, contracts of functions; pruned by a program of ours. -/
import Derived.Test.YtcmkgoflnfchcaaRc17
import Derived.Test.YtcmkgoflnfchcaaRows
set_option linter.unusedSimpArgs false
set_option linter.unusedVariables false
namespace Go.Ev
open Go Go.RowKit Go.Proofs
attribute [local irreducible] Opens OpensG
theorem reach_leF : reachBytes ≤ 140737488355328 := by decide
theorem opF_int : Opens Try.prog 3 (fun n : Int => [.v (.int .i64 n)]) (fun n => (Lit.int .i64 n).wf = true) := Opens.int Try.underlying3
theorem opF_bytes : Opens Try.prog 22 (fun b : List UInt8 => [.row 5 1 (bytesA b)]) (fun b => b.length ≤ 140737488355328) :=
  Opens.map id (fun _ => rfl) (fun a h => by have := h.1; have := reach_leF; show a.length ≤ _; omega) (Opens.slice Try.underlying22 (sz := 1) (by kernel_rfl) (by decide) (by_ := 1) (by kernel_rfl) (by decide) (Opens.u8 Try.underlying5) (fun _ => rfl) (fun a c hc => by simp [byteC] at hc; rw [hc]; trivial))
theorem opF_fd : Opens Try.prog 92 fdC (fun p => p.f.length ≤ 140737488355328) := by
  have h := Opens.struct Try.underlying92 (tot := 3) (by kernel_rfl) (OpensG.cons (k := 1) rfl (by kernel_rfl) opF_bytes (OpensG.cons (k := 1) rfl (by kernel_rfl) opF_int (OpensG.cons (k := 1) rfl (by kernel_rfl) opF_int OpensG.nil)))
  exact Opens.map (fun x : List UInt8 × Int × Int × Unit => (⟨x.1, x.2.1, x.2.2.1⟩ : Fd)) (fun _ => rfl) (fun a h => h.1) h
end Go.Ev
