/- Part 14 of what the row leans on: the evaluator, words, contracts of functions; pruned by a program of ours. -/
import Derived.Test.YtijmbcnhkdhkeaaLp13
import Derived.Test.YtijmbcnhkdhkeaaRows
set_option linter.unusedSimpArgs false
set_option linter.unusedVariables false
namespace Go.Ev
open Go Go.RowKit Go.Proofs
attribute [local irreducible] Opens OpensG
theorem reach_leL : reachBytes ≤ 140737488355328 := by decide
theorem opL_int : Opens Try.prog 3 (fun n : Int => [.v (.int .i64 n)]) (fun n => (Lit.int .i64 n).wf = true) := Opens.int Try.underlying3
theorem opL_bool : Opens Try.prog 4 (fun b : Bool => [.v (.bool b)]) (fun _ => True) := Opens.bool Try.underlying4
theorem opL_bytes : Opens Try.prog 25 (fun b : List UInt8 => [.row 5 1 (bytesA b)]) (fun b => b.length ≤ 140737488355328) :=
  Opens.map id (fun _ => rfl) (fun a h => by have := h.1; have := reach_leL; show a.length ≤ _; omega) (Opens.slice Try.underlying25 (sz := 1) (by kernel_rfl) (by decide) (by_ := 1) (by kernel_rfl) (by decide) (Opens.u8 Try.underlying5) (fun _ => rfl) (fun a c hc => by simp [byteC] at hc; rw [hc]; trivial))
theorem opL_pk : Opens Try.prog 87 pkC (fun p => p.f.length ≤ 140737488355328) := by
  have h := Opens.struct Try.underlying87 (tot := 6) (by kernel_rfl) (OpensG.cons (k := 1) rfl (by kernel_rfl) opL_int (OpensG.cons (k := 1) rfl (by kernel_rfl) opL_int (OpensG.cons (k := 1) rfl (by kernel_rfl) opL_int (OpensG.cons (k := 1) rfl (by kernel_rfl) opL_int (OpensG.cons (k := 1) rfl (by kernel_rfl) opL_bool (OpensG.cons (k := 1) rfl (by kernel_rfl) opL_bytes OpensG.nil))))))
  exact Opens.map (fun x : Int × Int × Int × Int × Bool × List UInt8 × Unit => (⟨x.1, x.2.1, x.2.2.1, x.2.2.2.1, x.2.2.2.2.1, x.2.2.2.2.2.1⟩ : Pk)) (fun _ => rfl) (fun a h => h.2.2.2.2.2.1) h
theorem opL_sn : Opens Try.prog 213 snC (fun s => s.p.f.length ≤ 140737488355328) := by
  have h := Opens.struct Try.underlying213 (tot := 7) (by kernel_rfl) (OpensG.cons (k := 6) rfl (by kernel_rfl) opL_pk (OpensG.cons (k := 1) rfl (by kernel_rfl) opL_int OpensG.nil))
  exact Opens.map (fun x : Pk × Int × Unit => (⟨x.1, x.2.1⟩ : Sn)) (fun _ => rfl) (fun a h => h.1) h
theorem opL_sns : Opens Try.prog 22 (fun ps : List Sn => [.row 213 7 (ra snC ps)]) (fun ps => ps.length ≤ 140737488355328 ∧ ∀ p ∈ ps, p.p.f.length ≤ 140737488355328) := by
  have h := Opens.slice Try.underlying22 (sz := 7) (by kernel_rfl) (by decide) (by_ := 72) (by kernel_rfl) (by decide) opL_sn (fun _ => rfl) (fun a c hc => by simp [snC] at hc; rcases hc with rfl | rfl | rfl | rfl | rfl | rfl | rfl <;> trivial)
  exact Opens.map id (fun _ => rfl) (fun a h => ⟨by have := h.1; have := reach_leL; show a.length ≤ _; omega, h.2⟩) h
theorem opL_lo : Opens Try.prog 24 (loC 213) (fun x => x.h.length ≤ 140737488355328 ∧ (∀ b ∈ x.h, b.p.f.length ≤ 140737488355328)) := by
  have h := Opens.struct Try.underlying24 (tot := 4) (by kernel_rfl) (OpensG.cons (k := 1) rfl (by kernel_rfl) opL_int (OpensG.cons (k := 1) rfl (by kernel_rfl) opL_int (OpensG.cons (k := 1) rfl (by kernel_rfl) opL_int (OpensG.cons (k := 1) rfl (by kernel_rfl) opL_sns OpensG.nil))))
  exact Opens.map (fun x : Int × Int × Int × List Sn × Unit => (⟨x.1, x.2.1, x.2.2.1, x.2.2.2.1⟩ : LO)) (fun _ => rfl) (fun a h => h.2.2.2.1) h
end Go.Ev
