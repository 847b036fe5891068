/- Part 19 of what the row leans on: the evaluator, words, contracts of functions; pruned by a program of ours. -/
import Derived.Test.YtnoelgaficjjmaaGreatTk18
import Derived.Test.YtnoelgaficjjmaaGreatRows
set_option linter.unusedSimpArgs false
set_option linter.unusedVariables false
namespace Go.Ev
open Go Go.RowKit Go.Proofs
attribute [local irreducible] Opens OpensG
theorem reach_leF : reachBytes ≤ 140737488355328 := by decide
theorem opF_int : Opens Tryz.prog 3 (fun n : Int => [.v (.int .i64 n)]) (fun n => (Lit.int .i64 n).wf = true) := Opens.int Tryz.underlying3
theorem opF_bool : Opens Tryz.prog 4 (fun b : Bool => [.v (.bool b)]) (fun _ => True) := Opens.bool Tryz.underlying4
theorem opF_bytes : Opens Tryz.prog 48 (fun b : List UInt8 => [.row 5 1 (bytesA b)]) (fun b => b.length ≤ 140737488355328) :=
  Opens.map id (fun _ => rfl) (fun a h => by have := h.1; have := reach_leF; show a.length ≤ _; omega) (Opens.slice Tryz.underlying48 (sz := 1) (by kernel_rfl) (by decide) (by_ := 1) (by kernel_rfl) (by decide) (Opens.u8 Tryz.underlying5) (fun _ => rfl) (fun a c hc => by simp [byteC] at hc; rw [hc]; trivial))
theorem opF_fd : Opens Tryz.prog 84 fdC (fun p => p.f.length ≤ 140737488355328) := by
  have h := Opens.struct Tryz.underlying84 (tot := 3) (by kernel_rfl) (OpensG.cons (k := 1) rfl (by kernel_rfl) opF_bytes (OpensG.cons (k := 1) rfl (by kernel_rfl) opF_int (OpensG.cons (k := 1) rfl (by kernel_rfl) opF_int OpensG.nil)))
  exact Opens.map (fun x : List UInt8 × Int × Int × Unit => (⟨x.1, x.2.1, x.2.2.1⟩ : Fd)) (fun _ => rfl) (fun a h => h.1) h
theorem opF_fds : Opens Tryz.prog 22 (fun ps : List Fd => [.row 84 3 (ra fdC ps)]) (fun ps => ps.length ≤ 140737488355328 ∧ ∀ p ∈ ps, p.f.length ≤ 140737488355328) := by
  have h := Opens.slice Tryz.underlying22 (sz := 3) (by kernel_rfl) (by decide) (by_ := 40) (by kernel_rfl) (by decide) opF_fd (fun _ => rfl) (fun a c hc => by simp [fdC] at hc; rcases hc with rfl | rfl | rfl <;> trivial)
  exact Opens.map id (fun _ => rfl) (fun a h => ⟨by have := h.1; have := reach_leF; show a.length ≤ _; omega, h.2⟩) h
theorem wfF_i64 {n : Int} (h : (Lit.int .i64 n).wf = true) : -9223372036854775808 ≤ n ∧ n ≤ 9223372036854775807 := by
  simpa [Lit.wf, IntKind.min, IntKind.max, IntKind.signed, IntKind.bits] using h
theorem opF_cl : Opens Tryz.prog 165 clC (fun p => p.f.length ≤ 140737488355328 ∧ -9223372036854775808 ≤ p.i ∧ p.i ≤ 9223372036854775807) := by
  have h := Opens.struct Tryz.underlying165 (tot := 3) (by kernel_rfl) (OpensG.cons (k := 1) rfl (by kernel_rfl) opF_bool (OpensG.cons (k := 1) rfl (by kernel_rfl) opF_int (OpensG.cons (k := 1) rfl (by kernel_rfl) opF_bytes OpensG.nil)))
  exact Opens.map (fun x : Bool × Int × List UInt8 × Unit => (⟨x.1, x.2.1, x.2.2.1⟩ : Cl)) (fun _ => rfl) (fun a h => ⟨h.2.2.1, wfF_i64 h.2.1⟩) h
theorem opF_cls : Opens Tryz.prog 86 (fun ps : List Cl => [.row 165 3 (ra clC ps)]) (fun ps => ps.length ≤ 140737488355328 ∧ ∀ p ∈ ps, p.f.length ≤ 140737488355328 ∧ -9223372036854775808 ≤ p.i ∧ p.i ≤ 9223372036854775807) := by
  have h := Opens.slice Tryz.underlying86 (sz := 3) (by kernel_rfl) (by decide) (by_ := 40) (by kernel_rfl) (by decide) opF_cl (fun _ => rfl) (fun a c hc => by simp [clC] at hc; rcases hc with rfl | rfl | rfl <;> trivial)
  exact Opens.map id (fun _ => rfl) (fun a h => ⟨by have := h.1; have := reach_leF; show a.length ≤ _; omega, h.2⟩) h
end Go.Ev
set_option linter.unusedSimpArgs false
set_option linter.unusedVariables false
namespace Go.Ev
open Go Go.RowKit Go.Proofs
attribute [local irreducible] Opens OpensG
theorem opY_bss : Opens Tryz.prog 132 (fun xs : List (List UInt8) => [.row 48 1 (ra byC xs)]) (fun xs => xs.length ≤ 140737488355328 ∧ ∀ b ∈ xs, b.length ≤ 140737488355328) := by
  have h := Opens.slice Tryz.underlying132 (sz := 1) (by kernel_rfl) (by decide) (by_ := 24) (by kernel_rfl) (by decide) opF_bytes (fun _ => rfl) (fun a c hc => by simp at hc; rw [hc]; trivial)
  exact Opens.map id (fun _ => rfl) (fun a h => ⟨by have := h.1; have := reach_leF; show a.length ≤ _; omega, h.2⟩) h
theorem opY_bsss : Opens Tryz.prog 27 (fun xs : List (List (List UInt8)) => [.row 132 1 (ra bbC xs)]) (fun xs => xs.length ≤ 140737488355328 ∧ ∀ b ∈ xs, b.length ≤ 140737488355328 ∧ ∀ c ∈ b, c.length ≤ 140737488355328) := by
  have h := Opens.slice Tryz.underlying27 (sz := 1) (by kernel_rfl) (by decide) (by_ := 24) (by kernel_rfl) (by decide) opY_bss (fun _ => rfl) (fun a c hc => by simp at hc; rw [hc]; trivial)
  exact Opens.map id (fun _ => rfl) (fun a h => ⟨by have := h.1; have := reach_leF; show a.length ≤ _; omega, h.2⟩) h
theorem opY_sm : Opens Tryz.prog 29 (smC 84) (fun x => x.fs.length ≤ 140737488355328 ∧ (∀ b ∈ x.fs, b.f.length ≤ 140737488355328) ∧ x.ds.length ≤ 140737488355328 ∧ ∀ b ∈ x.ds, b.length ≤ 140737488355328 ∧ ∀ c ∈ b, c.length ≤ 140737488355328) := by
  have h := Opens.struct Tryz.underlying29 (tot := 4) (by kernel_rfl) (OpensG.cons (k := 1) rfl (by kernel_rfl) opF_bool (OpensG.cons (k := 1) rfl (by kernel_rfl) opF_fds (OpensG.cons (k := 1) rfl (by kernel_rfl) opF_int (OpensG.cons (k := 1) rfl (by kernel_rfl) opY_bsss OpensG.nil))))
  exact Opens.map (fun x : Bool × List Fd × Int × List (List (List UInt8)) × Unit => (⟨x.1, x.2.1, x.2.2.1, x.2.2.2.1⟩ : Sm)) (fun _ => rfl) (fun a h => ⟨h.2.1.1, h.2.1.2, h.2.2.2.1⟩) h
end Go.Ev
set_option linter.unusedSimpArgs false
set_option linter.unusedVariables false
namespace Go.Ev
open Go Go.RowKit Go.Proofs
attribute [local irreducible] Opens OpensG
theorem opF_tb : Opens Tryz.prog 88 (tbC 165) (fun x => x.c.length ≤ 140737488355328 ∧ ∀ p ∈ x.c, p.f.length ≤ 140737488355328 ∧ -9223372036854775808 ≤ p.i ∧ p.i ≤ 9223372036854775807) := by
  have h := Opens.struct Tryz.underlying88 (tot := 2) (by kernel_rfl) (OpensG.cons (k := 1) rfl (by kernel_rfl) opF_int (OpensG.cons (k := 1) rfl (by kernel_rfl) opF_cls OpensG.nil))
  exact Opens.map (fun x : Int × List Cl × Unit => (⟨x.1, x.2.1⟩ : Tb)) (fun _ => rfl) (fun a h => h.2.1) h
end Go.Ev
set_option linter.unusedSimpArgs false
set_option linter.unusedVariables false
namespace Go.Ev
open Go Go.RowKit Go.Proofs
attribute [local irreducible] Opens OpensG
theorem reach_leL : reachBytes ≤ 140737488355328 := by decide
theorem opL_int : Opens Tryz.prog 3 (fun n : Int => [.v (.int .i64 n)]) (fun n => (Lit.int .i64 n).wf = true) := Opens.int Tryz.underlying3
theorem opL_bool : Opens Tryz.prog 4 (fun b : Bool => [.v (.bool b)]) (fun _ => True) := Opens.bool Tryz.underlying4
theorem opL_bytes : Opens Tryz.prog 48 (fun b : List UInt8 => [.row 5 1 (bytesA b)]) (fun b => b.length ≤ 140737488355328) :=
  Opens.map id (fun _ => rfl) (fun a h => by have := h.1; have := reach_leL; show a.length ≤ _; omega) (Opens.slice Tryz.underlying48 (sz := 1) (by kernel_rfl) (by decide) (by_ := 1) (by kernel_rfl) (by decide) (Opens.u8 Tryz.underlying5) (fun _ => rfl) (fun a c hc => by simp [byteC] at hc; rw [hc]; trivial))
theorem opL_pk : Opens Tryz.prog 128 pkC (fun p => p.f.length ≤ 140737488355328) := by
  have h := Opens.struct Tryz.underlying128 (tot := 6) (by kernel_rfl) (OpensG.cons (k := 1) rfl (by kernel_rfl) opL_int (OpensG.cons (k := 1) rfl (by kernel_rfl) opL_int (OpensG.cons (k := 1) rfl (by kernel_rfl) opL_int (OpensG.cons (k := 1) rfl (by kernel_rfl) opL_int (OpensG.cons (k := 1) rfl (by kernel_rfl) opL_bool (OpensG.cons (k := 1) rfl (by kernel_rfl) opL_bytes OpensG.nil))))))
  exact Opens.map (fun x : Int × Int × Int × Int × Bool × List UInt8 × Unit => (⟨x.1, x.2.1, x.2.2.1, x.2.2.2.1, x.2.2.2.2.1, x.2.2.2.2.2.1⟩ : Pk)) (fun _ => rfl) (fun a h => h.2.2.2.2.2.1) h
theorem opL_sn : Opens Tryz.prog 130 snC (fun s => s.p.f.length ≤ 140737488355328) := by
  have h := Opens.struct Tryz.underlying130 (tot := 7) (by kernel_rfl) (OpensG.cons (k := 6) rfl (by kernel_rfl) opL_pk (OpensG.cons (k := 1) rfl (by kernel_rfl) opL_int OpensG.nil))
  exact Opens.map (fun x : Pk × Int × Unit => (⟨x.1, x.2.1⟩ : Sn)) (fun _ => rfl) (fun a h => h.1) h
theorem opL_sns : Opens Tryz.prog 24 (fun ps : List Sn => [.row 130 7 (ra snC ps)]) (fun ps => ps.length ≤ 140737488355328 ∧ ∀ p ∈ ps, p.p.f.length ≤ 140737488355328) := by
  have h := Opens.slice Tryz.underlying24 (sz := 7) (by kernel_rfl) (by decide) (by_ := 72) (by kernel_rfl) (by decide) opL_sn (fun _ => rfl) (fun a c hc => by simp [snC] at hc; rcases hc with rfl | rfl | rfl | rfl | rfl | rfl | rfl <;> trivial)
  exact Opens.map id (fun _ => rfl) (fun a h => ⟨by have := h.1; have := reach_leL; show a.length ≤ _; omega, h.2⟩) h
theorem opL_lo : Opens Tryz.prog 26 (loC 130) (fun x => x.h.length ≤ 140737488355328 ∧ (∀ b ∈ x.h, b.p.f.length ≤ 140737488355328)) := by
  have h := Opens.struct Tryz.underlying26 (tot := 4) (by kernel_rfl) (OpensG.cons (k := 1) rfl (by kernel_rfl) opL_int (OpensG.cons (k := 1) rfl (by kernel_rfl) opL_int (OpensG.cons (k := 1) rfl (by kernel_rfl) opL_int (OpensG.cons (k := 1) rfl (by kernel_rfl) opL_sns OpensG.nil))))
  exact Opens.map (fun x : Int × Int × Int × List Sn × Unit => (⟨x.1, x.2.1, x.2.2.1, x.2.2.2.1⟩ : LO)) (fun _ => rfl) (fun a h => h.2.2.2.1) h
end Go.Ev
set_option linter.unusedSimpArgs false
set_option linter.unusedVariables false
namespace Go.Ev
open Go Go.RowKit Go.Proofs
attribute [local irreducible] Opens OpensG
theorem opS_tbs : Opens Tryz.prog 23 (fun ps : List Tb => [.row 88 2 (ra (tbC 165) ps)]) (fun ps => ps.length ≤ 140737488355328 ∧ ∀ t ∈ ps, t.c.length ≤ 140737488355328 ∧ ∀ p ∈ t.c, p.f.length ≤ 140737488355328 ∧ -9223372036854775808 ≤ p.i ∧ p.i ≤ 9223372036854775807) := by
  have h := Opens.slice Tryz.underlying23 (sz := 2) (by kernel_rfl) (by decide) (by_ := 32) (by kernel_rfl) (by decide) opF_tb (fun _ => rfl) (fun a c hc => by simp [tbC] at hc; rcases hc with rfl | rfl <;> trivial)
  exact Opens.map id (fun _ => rfl) (fun a h => ⟨by have := h.1; have := reach_leF; show a.length ≤ _; omega, h.2⟩) h
theorem opS_sd : Opens Tryz.prog 31 sdCl SdO := by
  have h := Opens.struct Tryz.underlying31 (tot := 13) (by kernel_rfl) (OpensG.cons (k := 1) rfl (by kernel_rfl) opF_fds (OpensG.cons (k := 1) rfl (by kernel_rfl) opF_int (OpensG.cons (k := 1) rfl (by kernel_rfl) opF_int (OpensG.cons (k := 1) rfl (by kernel_rfl) opS_tbs (OpensG.cons (k := 1) rfl (by kernel_rfl) opF_int (OpensG.cons (k := 4) rfl (by kernel_rfl) opL_lo (OpensG.cons (k := 4) rfl (by kernel_rfl) opY_sm OpensG.nil)))))))
  exact Opens.map (fun x : List Fd × Int × Int × List Tb × Int × LO × Sm × Unit => (⟨x.1, x.2.1, x.2.2.1, x.2.2.2.1, x.2.2.2.2.1, x.2.2.2.2.2.1, x.2.2.2.2.2.2.1⟩ : Sd)) (fun _ => rfl) (fun a h => ⟨h.1, h.2.2.2.1, h.2.2.2.2.2.1, h.2.2.2.2.2.2.1⟩) h
end Go.Ev
