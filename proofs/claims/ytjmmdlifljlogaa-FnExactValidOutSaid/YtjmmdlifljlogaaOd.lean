/- A law's arguments: packets, what was sent, a link's far end. -/
import Derived.Test.YtjmmdlifljlogaaOc
import Derived.Test.YtjmmdlifljlogaaRows
import Derived.Test.YtjmmdlifljlogaaS3
set_option linter.unusedSimpArgs false
set_option linter.unusedVariables false
namespace Go.Ev
open Go Go.RowKit Go.Proofs
attribute [local irreducible] Opens OpensG
theorem reach_le : reachBytes ≤ 140737488355328 := by decide
theorem op_int : Opens Try.prog 3 (fun n : Int => [.v (.int .i64 n)]) (fun n => (Lit.int .i64 n).wf = true) := Opens.int Try.underlying3
theorem op_bool : Opens Try.prog 4 (fun b : Bool => [.v (.bool b)]) (fun _ => True) := Opens.bool Try.underlying4
theorem op_bytes : Opens Try.prog 23 (fun b : List UInt8 => [.row 5 1 (bytesA b)]) (fun b => b.length ≤ 140737488355328) :=
  Opens.map id (fun _ => rfl) (fun a h => by have := h.1; have := reach_le; show a.length ≤ _; omega) (Opens.slice Try.underlying23 (sz := 1) (by kernel_rfl) (by decide) (by_ := 1) (by kernel_rfl) (by decide) (Opens.u8 Try.underlying5) (fun _ => rfl) (fun a c hc => by simp [byteC] at hc; rw [hc]; trivial))
theorem op_pk : Opens Try.prog 122 pkC (fun p => p.f.length ≤ 140737488355328) := by
  have h := Opens.struct Try.underlying122 (tot := 6) (by kernel_rfl) (OpensG.cons (k := 1) rfl (by kernel_rfl) op_int (OpensG.cons (k := 1) rfl (by kernel_rfl) op_int (OpensG.cons (k := 1) rfl (by kernel_rfl) op_int (OpensG.cons (k := 1) rfl (by kernel_rfl) op_int (OpensG.cons (k := 1) rfl (by kernel_rfl) op_bool (OpensG.cons (k := 1) rfl (by kernel_rfl) op_bytes OpensG.nil))))))
  exact Opens.map (fun x : Int × Int × Int × Int × Bool × List UInt8 × Unit => (⟨x.1, x.2.1, x.2.2.1, x.2.2.2.1, x.2.2.2.2.1, x.2.2.2.2.2.1⟩ : Pk)) (fun _ => rfl) (fun a h => h.2.2.2.2.2.1) h
theorem op_pks : Opens Try.prog 61 (fun ps : List Pk => [.row 122 6 (ra pkC ps)]) (fun ps => ps.length ≤ 140737488355328 ∧ ∀ p ∈ ps, p.f.length ≤ 140737488355328) := by
  have h := Opens.slice Try.underlying61 (sz := 6) (by kernel_rfl) (by decide) (by_ := 64) (by kernel_rfl) (by decide) op_pk (fun _ => rfl) (fun a c hc => by simp [pkC] at hc; rcases hc with rfl | rfl | rfl | rfl | rfl | rfl <;> trivial)
  exact Opens.map id (fun _ => rfl) (fun a h => ⟨by have := h.1; have := reach_le; show a.length ≤ _; omega, h.2⟩) h
theorem op_li : Opens Try.prog 63 (liC 122) (fun x => x.h.length ≤ 140737488355328 ∧ (∀ b ∈ x.h, b.f.length ≤ 140737488355328) ∧ x.f.length ≤ 140737488355328) := by
  have h := Opens.struct Try.underlying63 (tot := 4) (by kernel_rfl) (OpensG.cons (k := 1) rfl (by kernel_rfl) op_int (OpensG.cons (k := 1) rfl (by kernel_rfl) op_int (OpensG.cons (k := 1) rfl (by kernel_rfl) op_pks (OpensG.cons (k := 1) rfl (by kernel_rfl) op_bytes OpensG.nil))))
  exact Opens.map (fun x : Int × Int × List Pk × List UInt8 × Unit => (⟨x.1, x.2.1, x.2.2.1, x.2.2.2.1⟩ : LI)) (fun _ => rfl) (fun a h => ⟨h.2.2.1.1, h.2.2.1.2, h.2.2.2.1⟩) h
end Go.Ev
