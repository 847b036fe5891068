/- Contracts: what was acknowledged is dropped. -/
import Derived.Test.YtijmbcnhkdhkeaaK1
import Derived.Test.YtijmbcnhkdhkeaaKv
set_option linter.unusedSimpArgs false
set_option linter.unusedVariables false
namespace Go.Ev
open Go Go.RowKit Go.Proofs
def qB (xs : List Sn) : AV := .bx 136 [.row 133 7 (ra snC xs)]
def dropQ (q : Int) (xs : List Sn) : List Sn := xs.dropWhile (fun s => decide (s.p.c < q))
def lo0 : LO := ⟨0, 0, 0, []⟩
noncomputable def ackL (x : LO) (q : Int) : LO × Int := @ite _ (okLO x ∧ 0 ≤ q ∧ q ≤ x.b) (Classical.propDecidable _) ({ x with h := dropQ q x.h }, 0) (lo0, 1)
theorem ackL_yes {x : LO} {q : Int} (h : okLO x ∧ 0 ≤ q ∧ q ≤ x.b) : ackL x q = ({ x with h := dropQ q x.h }, 0) := @if_pos _ (Classical.propDecidable _) h _ _ _
theorem ackL_no {x : LO} {q : Int} (h : ¬ (okLO x ∧ 0 ≤ q ∧ q ≤ x.b)) : ackL x q = (lo0, 1) := @if_neg _ (Classical.propDecidable _) h _ _ _
noncomputable def resL (xc : LO × Int) : AV := .tup [.agg (loC 133 xc.1), .v (.int .i64 xc.2)]
theorem loB_t {x : LO} (h : loB x = true) : okLO x := of_decide_eq_true (inst := Classical.propDecidable _) h
theorem loB_f {x : LO} (h : loB x = false) : ¬ okLO x := of_decide_eq_false (inst := Classical.propDecidable _) h
theorem ack_no {x : LO} {q : Int} (h : ¬ (okLO x ∧ 0 ≤ q ∧ q ≤ x.b)) : AV.tup [.agg [.v (.int .i64 0), .v (.int .i64 0), .v (.int .i64 0), .row 133 7 []], .v (.int .i64 1)] = resL (ackL x q) := by rw [ackL_no h]; rfl
def keepQ (q : Int) (xs : List Sn) : List Sn := xs.filter (fun s => decide (q ≤ s.p.c))
theorem keep_drop (q : Int) : ∀ {xs : List Sn}, xs.Pairwise (fun s t => s.p.c ≤ t.p.c) → keepQ q xs = dropQ q xs
  | [], _ => rfl
  | s :: xs, h => by
    obtain ⟨h1, h2⟩ := List.pairwise_cons.1 h
    by_cases hc : s.p.c < q
    · rw [keepQ, dropQ, List.filter_cons_of_neg (by simpa using hc), List.dropWhile_cons_of_pos (by simpa using hc)]
      exact keep_drop q h2
    · rw [dropQ, List.dropWhile_cons_of_neg (by simpa using hc), keepQ, List.filter_eq_self.2]
      intro t ht
      rcases List.mem_cons.1 ht with rfl | ht
      · simpa using hc
      · have := h1 t ht
        simp; omega
theorem lo_pair {x : LO} (h : okLO x) : x.h.Pairwise (fun s t => s.p.c ≤ t.p.c) := by
  rw [List.pairwise_iff_getElem]
  intro i j hi hj hij
  have h1 := (h.2 i hi).2.2.2.1
  have h2 := (h.2 j hj).2.2.2.1
  omega
theorem keepQ_snoc (q : Int) {xs : List Sn} {i : Nat} (h : i < xs.length) : keepQ q (xs.take (i + 1)) = if q ≤ xs[i].p.c then keepQ q (xs.take i) ++ [xs[i]] else keepQ q (xs.take i) := by
  rw [← sn_take h, keepQ, List.filter_append]
  by_cases hc : q ≤ xs[i].p.c <;> simp [keepQ, hc]
end Go.Ev
