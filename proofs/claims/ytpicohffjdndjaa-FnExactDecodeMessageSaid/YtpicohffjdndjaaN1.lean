/- What lies behind messages out of bytes: where the parts begin. -/
import Derived.Test.YtpicohffjdndjaaM3
import Derived.Test.YtpicohffjdndjaaE4
set_option linter.unusedSimpArgs false
set_option linter.unusedVariables false
namespace Go.Ev
open Go Go.RowKit Go.Proofs
def ev (n : Nat) : Nat := (n + 7) / 8 * 8
theorem ev_le (n : Nat) : n ≤ ev n ∧ ev n ≤ n + 7 := by unfold ev; omega
theorem ev_mod (n : Nat) : ev n % 8 = 0 := by unfold ev; omega
theorem joinA_pad (xs : List (List UInt8)) : ∀ i, i ≤ xs.length → (joinA (xs.take i)).length = szL (fun x => ev x.length) (xs.take i)
  | 0, _ => by simp [joinA, szL]
  | i + 1, h => by
    have ih := joinA_pad xs i (by omega)
    rw [joinA_take (by omega), pad8_length, List.length_append, szL_take_succ _ (by omega), ih]
    have hm : szL (fun x : List UInt8 => ev x.length) (xs.take i) % 8 = 0 := by
      have : ∀ ys : List (List UInt8), szL (fun x : List UInt8 => ev x.length) ys % 8 = 0 := fun ys => by
        induction ys with
        | nil => rfl
        | cons y ys ih => simp only [szL, List.map_cons, List.sum_cons] at ih ⊢; have := ev_mod y.length; omega
      exact this _
    generalize szL (fun x : List UInt8 => ev x.length) (xs.take i) = t at *
    simp only [padN, ev]
    omega
theorem joinA_len2 (xs : List (List UInt8)) : (joinA xs).length = szL (fun x => ev x.length) xs := by
  have := joinA_pad xs xs.length (Nat.le_refl _)
  rwa [List.take_length] at this
/-! ### parts -/
def szAt (b : List UInt8) (i : Nat) : Nat := leN (cutB b (8 + 4 * i) (12 + 4 * i))
def atP (b : List UInt8) (n : Nat) : Nat → Nat
  | 0 => 8 + ev (4 * n)
  | i + 1 => atP b n i + ev (szAt b i)
theorem atP_mono (b : List UInt8) (n : Nat) : ∀ {i j : Nat}, i ≤ j → atP b n i ≤ atP b n j
  | i, 0, h => by obtain rfl : i = 0 := by omega
                  exact Nat.le_refl _
  | i, j + 1, h => by
    by_cases e : i = j + 1
    · rw [e]; exact Nat.le_refl _
    · have := atP_mono b n (show i ≤ j by omega)
      rw [atP]; omega
def goodI (b : List UInt8) (n i : Nat) : Prop := 12 + 4 * i ≤ b.length ∧ atP b n i ≤ b.length ∧ atP b n i + szAt b i ≤ b.length
def bufAt (b : List UInt8) (n i : Nat) : List UInt8 := cutB b (atP b n i) (atP b n i + szAt b i)
def bufs (b : List UInt8) (n i : Nat) : List (List UInt8) := (List.range i).map (bufAt b n)
def nOf (b : List UInt8) : Nat := (b.getD 6 0).toNat
def msOf (b : List UInt8) : Ms := ⟨((b.getD 2 0).toNat : Int), ((b.getD 3 0).toNat : Int), numAt b 4 6, bufs b (nOf b) (nOf b)⟩
def ms0 : Ms := ⟨0, 0, 0, []⟩
def decMGood (b : List UInt8) : Prop := 12 ≤ b.length ∧ b.length ≤ 20000 ∧ (∀ i, i < nOf b → goodI b (nOf b) i) ∧ encM (msOf b) = b
noncomputable def decM (b : List UInt8) : Ms × Int := @ite _ (decMGood b) (Classical.propDecidable _) (msOf b, 0) (ms0, 3)
theorem decM_yes {b : List UInt8} (h : decMGood b) : decM b = (msOf b, 0) := @if_pos _ (Classical.propDecidable _) h _ _ _
theorem decM_no {b : List UInt8} (h : ¬ decMGood b) : decM b = (ms0, 3) := @if_neg _ (Classical.propDecidable _) h _ _ _
/-! the program's own way: never beyond the end -/
def atC (b : List UInt8) (n i : Nat) : Nat := min (atP b n i) b.length
def bufC (b : List UInt8) (n i : Nat) : List UInt8 := cutB b (atC b n i) (atC b n i + szAt b i)
def bufsC (b : List UInt8) (n i : Nat) : List (List UInt8) := (List.range i).map (bufC b n)
def msC2 (b : List UInt8) : Ms := ⟨((b.getD 2 0).toNat : Int), ((b.getD 3 0).toNat : Int), numAt b 4 6, bufsC b (nOf b) (nOf b)⟩
theorem bufsC_len {b : List UInt8} {n i : Nat} (h : atC b n i + szAt b i ≤ b.length) : (bufC b n i).length = szAt b i := by
  rw [bufC, cutB_length h]; omega
theorem sum_bufsC (b : List UInt8) (n : Nat) : ∀ k, (∀ i, i < k → atC b n i + szAt b i ≤ b.length) → 8 + ev (4 * n) + szL (fun x => ev x.length) (bufsC b n k) = atP b n k
  | 0, _ => by simp [bufsC, szL, atP]
  | k + 1, h => by
    have ih := sum_bufsC b n k (fun i hi => h i (by omega))
    have hl := bufsC_len (h k (by omega))
    rw [atP, ← ih, bufsC, List.range_succ, List.map_append]
    simp only [szL, List.map_append, List.map_cons, List.map_nil, List.sum_append, List.sum_cons, List.sum_nil, bufsC, hl]
    omega
theorem encM_len {x : Ms} (h : encM x ≠ []) : (encM x).length = 12 + szL (fun b => ev b.length) (lensB x.bs :: x.bs) := by
  unfold encM at h ⊢
  split
  · rw [msBody_eq]
    simp only [List.length_append, leB_length, joinA_len2, headB, List.length_cons, List.length_nil]
    omega
  · rename_i h'; rw [if_neg h'] at h; exact absurd rfl h
theorem atC_all {b : List UInt8} (h12 : 12 ≤ b.length) (hs : ∀ i, i < nOf b → atC b (nOf b) i + szAt b i ≤ b.length) (he : encM (msC2 b) = b) : ∀ i, i ≤ nOf b → atP b (nOf b) i ≤ b.length := by
  intro i hi
  have hne : encM (msC2 b) ≠ [] := fun e => by rw [he] at e; rw [e] at h12; simp at h12
  have h1 := encM_len hne
  rw [he] at h1
  have h2 := sum_bufsC b (nOf b) (nOf b) hs
  have h3 : (msC2 b).bs = bufsC b (nOf b) (nOf b) := rfl
  have h4 : (bufsC b (nOf b) (nOf b)).length = nOf b := by simp [bufsC]
  have h5 : szL (fun b : List UInt8 => ev b.length) (lensB (msC2 b).bs :: (msC2 b).bs) = ev (4 * nOf b) + szL (fun b => ev b.length) (bufsC b (nOf b) (nOf b)) := by
    rw [h3]
    simp only [szL, List.map_cons, List.sum_cons, lensB_length, h4]
  have := atP_mono b (nOf b) hi
  omega
theorem msC2_eq {b : List UInt8} (h : ∀ i, i ≤ nOf b → atP b (nOf b) i ≤ b.length) : msC2 b = msOf b := by
  have : bufsC b (nOf b) (nOf b) = bufs b (nOf b) (nOf b) := by
    refine List.map_congr_left fun i hi => ?_
    have hi := List.mem_range.1 hi
    have e : atC b (nOf b) i = atP b (nOf b) i := Nat.min_eq_left (h i (by omega))
    rw [bufC, bufAt, e]
  rw [msC2, msOf, this]
/-- What the program's own way finds. -/
theorem decM_impl {b : List UInt8} (h12 : 12 ≤ b.length) (hL : b.length ≤ 20000) (hs : ∀ i, i < nOf b → atC b (nOf b) i + szAt b i ≤ b.length) : (encM (msC2 b) = b → decM b = (msC2 b, 0)) ∧ (encM (msC2 b) ≠ b → decM b = (ms0, 3)) := by
  constructor
  · intro he
    have hall := atC_all h12 hs he
    have e := msC2_eq hall
    rw [e]
    refine decM_yes ⟨h12, hL, fun i hi => ?_, by rw [← e]; exact he⟩
    have h0 := hall 0 (by omega)
    rw [atP] at h0
    have := (ev_le (4 * nOf b)).1
    have h1 := hs i hi
    have e1 : atC b (nOf b) i = atP b (nOf b) i := Nat.min_eq_left (hall i (by omega))
    exact ⟨by omega, hall i (by omega), by rw [e1] at h1; exact h1⟩
  · intro hne
    refine decM_no (fun h => hne ?_)
    obtain ⟨_, _, hg, he⟩ := h
    -- the parts as the reference has them
    have hne' : encM (msOf b) ≠ [] := fun e => by rw [he] at e; rw [e] at h12; simp at h12
    have h1 := encM_len hne'
    rw [he] at h1
    have e2 : ∀ i, i < nOf b → bufC b (nOf b) i = bufAt b (nOf b) i := fun i hi => by
      rw [bufC, bufAt, show atC b (nOf b) i = atP b (nOf b) i from Nat.min_eq_left (hg i hi).2.1]
    have e3 : bufsC b (nOf b) (nOf b) = bufs b (nOf b) (nOf b) := List.map_congr_left fun i hi => e2 i (List.mem_range.1 hi)
    rw [show msC2 b = msOf b by rw [msC2, msOf, e3]]
    exact he
end Go.Ev
