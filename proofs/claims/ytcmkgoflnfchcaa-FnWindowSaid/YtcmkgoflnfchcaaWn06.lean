/- Part 6 of what the row leans on: the evaluator, words, contracts of functions; pruned by a program of ours. -/
import Derived.Test.YtcmkgoflnfchcaaWn05
import Derived.Lib.ConvBytes
import Derived.Laws.MakeOwn
set_option linter.unusedVariables false
set_option linter.unusedSimpArgs false
namespace Go.Ev
open Go Go.RowKit
theorem RepCs.conv {C C' : Cx} {cl cl' : Bool} {md md' : Md} {b b' : Nat} (f : AV → AV) : ∀ {cs : List AV} {off off' q q' : Nat}, RepCs C cl md b off q cs → (∀ j, j < cs.length → C'.w.cell? ⟨b', off' + j, none⟩ = C.w.cell? ⟨b, off + j, none⟩) →
    (∀ k c y, cs[k]? = some c → one y → Rep C cl (md.sub (q + k)) c y → Rep C' cl' (md'.sub (q' + k)) (f c) y) → RepCs C' cl' md' b' off' q' (cs.map f)
  | [], _, _, _, _, _, _, _ => trivial
  | c :: cs, off, off', q, q', h, hc, hf => by
    obtain ⟨⟨y, h1, h2, h3⟩, h4⟩ := h
    refine ⟨⟨y, (by simpa using (hc 0 (by simp)).trans (by simpa using h1)), h2, by simpa using hf 0 c y (by simp) h2 (by simpa using h3)⟩, RepCs.conv f h4 (fun j hj => ?_) (fun k c' y' hk hy hr => ?_)⟩
    · have := hc (j + 1) (by simpa using hj)
      rwa [show off' + (j + 1) = off' + 1 + j by omega, show off + (j + 1) = off + 1 + j by omega] at this
    · have := hf (k + 1) c' y' (by simpa using hk) hy (by rwa [show q + (k + 1) = q + 1 + k by omega])
      rwa [show q' + (k + 1) = q' + 1 + k by omega] at this
theorem RepEls.conv {C C' : Cx} {md md' : Md} {b b' sz : Nat} (f : AV → AV) : ∀ {els : List (List AV)} {off off' q q' : Nat}, RepEls C md b off q sz els → (∀ j, j < els.length * sz → C'.w.cell? ⟨b', off' + j, none⟩ = C.w.cell? ⟨b, off + j, none⟩) →
    (∀ cs ∈ els, ∀ c ∈ cs, ∀ k y, one y → Rep C true (md.sub (q + k)) c y → Rep C' true (md'.sub (q' + k)) (f c) y) → RepEls C' md' b' off' q' sz (els.map (List.map f))
  | [], _, _, _, _, _, _, _ => trivial
  | e :: es, off, off', q, q', h, hc, hf => by
    obtain ⟨h1, h2, h3⟩ := h
    have hm : sz ≤ (e :: es).length * sz := by rw [List.length_cons, Nat.add_mul]; omega
    refine ⟨by simpa using h1, RepCs.conv f h2 (fun j hj => hc j (by omega)) (fun k c y hk hy hr => hf e (by simp) c (List.mem_of_getElem? hk) k y hy hr), RepEls.conv f h3 (fun j hj => ?_) (fun cs hcs c hcc k y hy hr => ?_)⟩
    · have := hc (sz + j) (by rw [List.length_cons, Nat.add_mul]; omega)
      rwa [← Nat.add_assoc, ← Nat.add_assoc] at this
    · have := hf cs (by simp [hcs]) c hcc (sz + k) y hy (by rwa [← Nat.add_assoc])
      rwa [← Nat.add_assoc] at this
theorem RepEls.append {C : Cx} {md : Md} {b sz : Nat} : ∀ {xs ys : List (List AV)} {off q : Nat}, RepEls C md b off q sz xs → RepEls C md b (off + xs.length * sz) (q + xs.length * sz) sz ys → RepEls C md b off q sz (xs ++ ys)
  | [], ys, off, q, _, h => by simpa using h
  | x :: xs, ys, off, q, h, h' => by
    refine ⟨h.1, h.2.1, RepEls.append h.2.2 ?_⟩
    rw [List.length_cons, Nat.add_mul, Nat.one_mul, Nat.add_comm _ sz, ← Nat.add_assoc, ← Nat.add_assoc] at h'
    exact h'
theorem RepCs.cells {C : Cx} {cl : Bool} {md : Md} {b : Nat} : ∀ {cs : List AV} {off q : Nat}, RepCs C cl md b off q cs → ∃ vs : List Value, vs.length = cs.length ∧ ∀ j v, vs[j]? = some v → C.w.cell? ⟨b, off + j, none⟩ = some v ∧ one v
  | [], _, _, _ => ⟨[], rfl, fun j v h => by simp at h⟩
  | c :: cs, off, q, h => by
    obtain ⟨⟨y, h1, h2, h3⟩, h4⟩ := h
    obtain ⟨vs, g1, g2⟩ := RepCs.cells h4
    refine ⟨y :: vs, by simp [g1], fun j v hj => ?_⟩
    cases j with
    | zero => obtain rfl : y = v := by simpa using hj
              exact ⟨h1, h2⟩
    | succ j => have := g2 j v (by simpa using hj)
                rwa [show off + (j + 1) = off + 1 + j by omega]
theorem RepEls.cells {C : Cx} {md : Md} {b sz : Nat} : ∀ {els : List (List AV)} {off q : Nat}, RepEls C md b off q sz els → ∃ vs : List Value, vs.length = els.length * sz ∧ ∀ j v, vs[j]? = some v → C.w.cell? ⟨b, off + j, none⟩ = some v ∧ one v
  | [], _, _, _ => ⟨[], by simp, fun j v h => by simp at h⟩
  | e :: es, off, q, h => by
    obtain ⟨h1, h2, h3⟩ := h
    obtain ⟨us, g1, g2⟩ := RepCs.cells h2
    obtain ⟨vs, g3, g4⟩ := RepEls.cells h3
    refine ⟨us ++ vs, by rw [List.length_append, g1, g3, h1, List.length_cons, Nat.add_mul]; omega, fun j v hj => ?_⟩
    rw [List.getElem?_append] at hj
    split at hj
    · exact g2 j v hj
    · have := g4 _ v hj
      rwa [show off + sz + (j - us.length) = off + j by omega] at this
section
variable {P : Program} {H : Nat → Nat} {W0 : Bs} {S F : Nat → Prop} {n : Nat} {L : Nat → Option Id} {m : Id → Value} {s : St} {a : Act} {w : World} {K : St → Prop}
def ES (gr : Bool) (P : Program) (W0 : Bs) (S F : Nat → Prop) (n : Nat) (K : St → Prop) (o : Oper) (a : Act) (w : World) : Prop :=
  ∃ v w' s', ((execOp a.eval o).run P w = .ok (.value v) w' ∨ ((execOp a.eval o).run P w = .ok .skip w' ∧ v = undef)) ∧ Rel W0 S F n s' (a.put o.dst v) w' ∧ K s' ∧ (gr = true → Grows w w')
theorem Stays.wrote (R : RelC W0 S F n L m s a w) {w' : World} {g : Nat} (hw : Wrote w w' g) (hg0 : W0.ok g) (L' : Nat → Option Id) (m' : Id → Value) (σ' : Id → Option OB) : Stays (cx w S F L m s.σ) (cx w' S F L' m' σ') := by
  have hold : ∀ b, S b ∨ F b → w'.heap[b]? = w.heap[b]? := fun b hb => by
    have h1 := R.old b hb
    exact hw.other b (fun e => h1 (e ▸ hg0)) (Nat.lt_of_lt_of_le (Bs.lt h1) R.below.size)
  exact ⟨fun b hb => ⟨hb, hold b (.inl hb)⟩, fun b hb => ⟨hb, hold b (.inr hb)⟩⟩
theorem cell_lt {w : World} {b o : Nat} {arr : Array Value} {e : TypeId} {fr : Nat × Nat} (h : w.heap[b]? = some (.cells arr e fr)) (ho : o < arr.size) : (w.cell? ⟨b, o, none⟩).isSome = true := by
  unfold World.cell?
  simp [h, ho]
theorem not_frozen {w : World} {b o : Nat} {arr : Array Value} {e : TypeId} {fr : Nat × Nat} (h : w.heap[b]? = some (.cells arr e fr)) (hf : ¬ (fr.1 ≤ o ∧ o < fr.2)) : w.frozen? ⟨b, o, none⟩ = false := by
  unfold World.frozen?
  obtain ⟨lo, hi⟩ := fr
  simp only [h]
  simpa using hf
theorem run_storeAt {T : TypeId} {k : Nat} {g : Bool} (ht : tySz P T = some (k, g)) {w : World} {b o : Nat} {v : Value} (hk : v.cells.size = k) (hc : ∀ j, j < k → (w.cell? ⟨b, o + j, none⟩).isSome = true ∧ w.frozen? ⟨b, o + j, none⟩ = false) (h1 : ∀ y ∈ v.cells.toList, one y) :
    (Instr.storeAt T (.pointer (some ⟨b, o, none⟩)) v).run P w = .ok () (w.setCells b o v.cells.toList) := by
  obtain ⟨_, hs, _⟩ := tySz_run ht w
  have := run_storeCells_cells (P := P) b o v.cells.toList 0 w (fun j hj => by simpa using (hc j (by simpa [hk] using hj)).1) (fun j hj => by simpa using (hc j (by simpa [hk] using hj)).2) (fun y hy => one_iff.1 (h1 y hy))
  simp only [Nat.add_zero] at this
  simp [Instr.storeAt, Instr.sureAddr, storeVar, hs, hk, this]
theorem upd_lt {i j n sz k t : Nat} (hi : i < n) (hk : k + t ≤ sz) (hj : j < t) : i * sz + k + j < n * sz := by
  have : (i + 1) * sz ≤ n * sz := Nat.mul_le_mul_right _ hi
  rw [Nat.add_mul] at this
  omega
theorem e_store_row {o : Oper} {T : TypeId} {x y : Operand} (ho : o.op = .store T x y) (hd : dOk n o.dst) (R : RelC W0 S F n L m s a w) {t : Nat × Bool} (ht : tySz P T = some t) {id : Id} {sz i k : Nat} (hv : s.ev x = .ptr id sz i k) {e : Nat} {els : List (List AV)}
    (hs : s.σ id = some (.row e sz els)) {cs : List AV} (hcs : els[i]? = some cs) {vs : List AV} {I : List Id} (hcl : s.clL (s.ev y).cells = some (vs, I)) (hlen : (s.ev y).cells.length = t.1) (hk : k + t.1 ≤ cs.length) (hind : indep I = true) (hh : hit I id = false)
    (hK : K (((s.chg I (id :: I)).obj id (.row e sz (els.set i (setAt (nilL ((cty P e).drop k) vs) k cs)))).put o.dst .any)) : ES false P W0 S F n K o a w := by
  have hx := R.ev x
  have hy := R.ev y
  rw [hv] at hx
  obtain ⟨_, hl, g', off', hg', he⟩ := hx
  obtain ⟨A, c, hm, hR⟩ := R.obj id _ hs
  have hm' : m id = .slice A els.length c := hm
  rw [show (cx w S F L m s.σ).m id = m id from rfl, hm'] at hg'
  rcases hR with ⟨rfl, _⟩ | ⟨g, off, arr, fr, q, rfl, hL, hh', h8, h9, h10, h11, hE⟩
  · simp at hcs
  simp only [hdrAddr, Option.some.injEq, Addr.mk.injEq] at hg'
  obtain ⟨rfl, rfl, _⟩ := hg'
  obtain ⟨hcl0, hC0⟩ := hE.at_ hcs
  have hi : i < els.length := (List.getElem?_eq_some_iff.1 hcs).1
  have hreps := cells_rep hy (okCell_clL hcl)
  have hL' : L g = some id := hL
  have hw' : w.heap[g]? = some (.cells arr e fr) := hh'
  have hgl := (R.lab g id hL').2
  have hg0 := (R.lab g id hL').1
  have hin : ∀ j, j < t.1 → i * sz + k + j < c * sz := fun j hj => Nat.lt_of_lt_of_le (upd_lt hi (by omega) hj) (Nat.mul_le_mul_right _ h8)
  have hw := wrote_setCells hgl (a.eval y).cells.toList (off + i * sz + k)
  have hmv := clL_mv hcl id (q + i * sz + k)
  have hout : ∀ z, hit I z = false → ∀ r, mvL (mvCs id (q + i * sz + k) (s.ev y).cells) (z ++ r) = z ++ r := fun z hz r => mvL_out (fun x hx => hit_mem (by rw [← hmv]; exact List.mem_map.2 ⟨x, hx, rfl⟩) hz) r
  have hsub : ∀ z, hit (id :: I) z = false → hit I z = false := fun z hz => by
    have : (cmp id z || hit I z) = false := hz
    simp only [Bool.or_eq_false_iff] at this
    exact this.2
  have hgid : ∀ p, L g = some p → p = id := fun p hp => by rw [hL'] at hp; exact (Option.some.inj hp).symm
  have kp := keep_wrote R (I := I) (J := id :: I) (id := id) (ob := .row e sz (els.set i (setAt (nilL ((cty P e).drop k) vs) k cs))) hw hsub (by simp)
    (ρ := mvL (mvCs id (q + i * sz + k) (s.ev y).cells)) (fun z r hz => hout z (hsub z hz) r) hgid hg0 (hdr := m id)
    (fun z hz hzl hzj => by
      have : (cmp id z || hit I z) = true := hzj
      rw [hz, Bool.or_false] at this
      exact ⟨(R.ind id z hl hzl this).symm, rfl⟩)
  have hylen : (a.eval y).cells.toList.length = t.1 := by
    have hall := clL_sound (p := id) (q := q + i * sz + k) R kp.st hcl hreps (fun z hz => tr_moved R hw hgid (fun r => mvL_in (by rw [hmv]; exact hind) hz r) (ne_append (hit_mem (by rw [← hmv]; exact List.mem_map.2 ⟨z, hz, rfl⟩) hh)))
    rw [hall.2.1, hlen]
  have hall := clL_sound (p := id) (q := q + i * sz + k) R kp.st hcl hreps (fun z hz => tr_moved R hw hgid (fun r => mvL_in (by rw [hmv]; exact hind) hz r) (ne_append (hit_mem (by rw [← hmv]; exact List.mem_map.2 ⟨z, hz, rfl⟩) hh)))
  obtain ⟨_, _, hone, hat⟩ := hall
  have hex : ∀ j, j < t.1 → (w.cell? ⟨g, off + i * sz + k + j, none⟩).isSome = true := fun j hj => cell_lt hw' (by have := hin j hj; omega)
  have hrun := run_storeAt (P := P) (w := w) (b := g) (o := off + i * sz + k) (v := a.eval y) ht (by simpa using hylen) (fun j hj => ⟨hex j hj, not_frozen hw' (by have := h10.no (hin j hj); rwa [← Nat.add_assoc, ← Nat.add_assoc] at this)⟩) hone
  obtain ⟨arr', g1, g2⟩ := setCells_same g (a.eval y).cells.toList (off + i * sz + k) w arr e fr hw'
  have trs : ∀ z, Tr (cx w S F L m s.σ) (cx (w.setCells g (off + i * sz + k) (a.eval y).cells.toList) S F (newL L (mvL (mvCs id (q + i * sz + k) (s.ev y).cells)) g id) (newM m id (m id)) (updS (killS s.σ I (id :: I)) id (.row e sz (els.set i (setAt (nilL ((cty P e).drop k) vs) k cs))))) (.own (id ++ [z])) (.own (id ++ [z])) := fun z =>
    tr_moved R hw hgid (fun r => by rw [List.append_assoc]; exact hout id hh _) (fun r e => by have := congrArg List.length e; simp at this)
  have hob : RepOb (cx (w.setCells g (off + i * sz + k) (a.eval y).cells.toList) S F (newL L (mvL (mvCs id (q + i * sz + k) (s.ev y).cells)) g id) (newM m id (m id)) (updS (killS s.σ I (id :: I)) id (.row e sz (els.set i (setAt (nilL ((cty P e).drop k) vs) k cs))))) id (.row e sz (els.set i (setAt (nilL ((cty P e).drop k) vs) k cs))) := by
    show Rep _ true (.own id) (.row e sz _) (newM m id (m id) id)
    have hnm : newM m id (m id) id = .slice (some ⟨g, off, none⟩) (els.set i (setAt (nilL ((cty P e).drop k) vs) k cs)).length c := by rw [List.length_set]; exact (if_pos rfl).trans hm'
    refine ⟨_, c, hnm, .inr ⟨g, off, arr', fr, q, rfl, ?_, g1, by rw [List.length_set]; exact h8, by omega, h10, by rw [List.length_set]; exact h11, RepEls.of fun i' cs' hi' => ?_⟩⟩
    · show newL L _ g id g = some id
      simp [newL]
    · rw [List.getElem?_set] at hi'
      split at hi'
      · rename_i e1
        subst e1
        obtain rfl := Option.some.inj hi'
        refine ⟨by rw [setAt_length]; exact hcl0, RepCs.of fun j c' hj => ?_⟩
        have hjl : j < sz := by
          have := (List.getElem?_eq_some_iff.1 hj).1
          rw [setAt_length] at this
          omega
        rcases setAt_at hj with ⟨h1, h2⟩ | ⟨h1, h2⟩
        · obtain ⟨ty, v, h3, rfl⟩ := nilL_at h2
          obtain ⟨u, h4, h5⟩ := hat _ _ h3
          have hjl' := (List.getElem?_eq_some_iff.1 h4).1
          have h6 := World.cell?_setCells_in g (a.eval y).cells.toList (off + i * sz + k) w (fun j hj => hex j (by omega)) (j - k) hjl'
          rw [show off + i * sz + k + (j - k) = off + i * sz + j by omega] at h6
          rw [show q + i * sz + k + (j - k) = q + i * sz + j by omega] at h5
          refine ⟨u, h6.trans (by rw [← h4]; exact (List.getElem?_eq_getElem hjl').symm), hone u (List.mem_of_getElem? h4), rep_nilC h5 ty⟩
        · obtain ⟨u, h4, h5, h6⟩ := hC0.at_ h2
          refine ⟨u, ?_, h5, Rep.tr kp.st (trs _) _ _ h6⟩
          rw [nilL_length] at h1
          refine (World.cell?_setCells_out g _ _ w _ (fun _ _ => ?_)).trans h4
          show off + i * sz + j < off + i * sz + k ∨ off + i * sz + k + (a.eval y).cells.toList.length ≤ off + i * sz + j
          have : vs.length = t.1 := by
            have := (clL_sound (p := id) (q := q + i * sz + k) R kp.st hcl hreps (fun z hz => tr_moved R hw hgid (fun r => mvL_in (by rw [hmv]; exact hind) hz r) (ne_append (hit_mem (by rw [← hmv]; exact List.mem_map.2 ⟨z, hz, rfl⟩) hh)))).1
            omega
          omega
      · rename_i hne
        obtain ⟨h1, h2⟩ := hE.at_ hi'
        refine ⟨h1, ?_⟩
        have := RepCs.conv (C' := cx (w.setCells g (off + i * sz + k) (a.eval y).cells.toList) S F (newL L (mvL (mvCs id (q + i * sz + k) (s.ev y).cells)) g id) (newM m id (m id)) (updS (killS s.σ I (id :: I)) id (.row e sz (els.set i (setAt (nilL ((cty P e).drop k) vs) k cs))))) (cl' := true) (md' := .own id) (b' := g) (off' := off + i' * sz) (q' := q + i' * sz) (fun x => x) h2 (fun j hj => ?_) (fun j c' u _ _ hr => Rep.tr kp.st (trs _) _ _ hr)
        · simpa using this
        · refine World.cell?_setCells_out g _ _ w _ (fun _ _ => ?_)
          show off + i' * sz + j < off + i * sz + k ∨ off + i * sz + k + (a.eval y).cells.toList.length ≤ off + i' * sz + j
          rcases Nat.lt_or_gt_of_ne hne with hlt | hlt
          · right
            have : (i + 1) * sz ≤ i' * sz := Nat.mul_le_mul_right _ hlt
            rw [Nat.add_mul] at this
            omega
          · left
            have : (i' + 1) * sz ≤ i * sz := Nat.mul_le_mul_right _ hlt
            rw [Nat.add_mul] at this
            omega
  refine ⟨undef, _, _, .inr ⟨?_, rfl⟩, ⟨_, _, (R.wrote hw (by simp) hg0 kp hob).put hd (x := .any) trivial⟩, hK, fun h => by cases h⟩
  simp only [execOp, ho, he, Sem.run_bind, hrun]
  rfl
theorem cell_freeze (w : World) (g n b o : Nat) {arr : Array Value} {e : TypeId} {fr : Nat × Nat} (h : w.heap[g]? = some (.cells arr e fr)) : (w.freeze ⟨g, n, none⟩ 1).cell? ⟨b, o, none⟩ = w.cell? ⟨b, o, none⟩ := by
  unfold World.freeze
  rw [if_neg (by decide)]
  unfold World.cell?
  simp only [Array.getElem?_modify]
  by_cases e1 : g = b
  · subst e1
    rw [if_pos rfl, h]
    rfl
  · rw [if_neg e1]
theorem freeze_at {w : World} {g : Nat} {arr : Array Value} {e : TypeId} {fr : Nat × Nat} (h : w.heap[g]? = some (.cells arr e fr)) (n : Nat) : (w.freeze ⟨g, n, none⟩ 1).heap[g]? = some (.cells arr e (if fr.1 == fr.2 then (n, n + 1) else (min fr.1 n, max fr.2 (n + 1)))) := by
  unfold World.freeze
  rw [if_neg (by decide)]
  simp [Array.getElem?_modify, h]
theorem wrote_freeze {w : World} {g : Nat} (h : g < w.heap.size) (n : Nat) : Wrote w (w.freeze ⟨g, n, none⟩ 1) g := by
  have hs : (w.freeze ⟨g, n, none⟩ 1).heap.size = w.heap.size := by
    unfold World.freeze
    rw [if_neg (by decide)]
    simp
  refine ⟨?_, ?_, ?_, by omega, fun b hb _ => ?_, by omega⟩
  · unfold World.freeze; rw [if_neg (by decide)]
  · unfold World.freeze; rw [if_neg (by decide)]
  · unfold World.freeze; rw [if_neg (by decide)]
  · unfold World.freeze
    rw [if_neg (by decide)]
    simp only [Array.getElem?_modify]
    rw [if_neg (fun e => hb e.symm)]
theorem e_convert_same {o : Oper} {src dt : TypeId} {x : Operand} (ho : o.op = .convert src dt x) (hd : dOk n o.dst) (R : RelC W0 S F n L m s a w) (hc : cvTy P src dt = some .same) {id : Id} (hv : s.ev x = .ref id) {u : Nat} {els : List (List AV)}
    (hs : s.σ id = some (.row u 1 els)) (hne : 0 < els.length) (hK : K (((s.chg [] [id]).obj id (.row u 1 els)).put o.dst (.ref id))) : ES false P W0 S F n K o a w := by
  have hx := R.ev x
  rw [hv] at hx
  obtain ⟨_, hone, hl, he⟩ := hx
  obtain ⟨A, c, hm, hR⟩ := R.obj id _ hs
  have hm' : m id = .slice A els.length c := hm
  rcases hR with ⟨rfl, _⟩ | ⟨g, off, arr, fr, q, rfl, hL, hh', h8, h9, h10, h11, hE⟩
  · simp at hne
  have hL' : L g = some id := hL
  have hw' : w.heap[g]? = some (.cells arr u fr) := hh'
  have hgl := (R.lab g id hL').2
  have hg0 := (R.lab g id hL').1
  have hw := wrote_freeze hgl arr.size
  have hgid : ∀ p, L g = some p → p = id := fun p hp => by rw [hL'] at hp; exact (Option.some.inj hp).symm
  have kp := keep_wrote R (I := []) (J := [id]) (id := id) (ob := .row u 1 els) hw (fun _ _ => rfl) (by simp) (ρ := fun x => x) (fun _ _ _ => rfl) hgid hg0 (hdr := m id)
    (fun z _ hzl hzj => ⟨(R.ind id z hl hzl (by simpa [hit] using hzj)).symm, rfl⟩)
  have trs : ∀ z, Tr (cx w S F L m s.σ) (cx (w.freeze ⟨g, arr.size, none⟩ 1) S F (newL L (fun x => x) g id) (newM m id (m id)) (updS (killS s.σ [] [id]) id (.row u 1 els))) (.own (id ++ [z])) (.own (id ++ [z])) := fun z =>
    tr_moved R hw hgid (fun r => rfl) (fun r e => by have := congrArg List.length e; simp at this)
  have hob : RepOb (cx (w.freeze ⟨g, arr.size, none⟩ 1) S F (newL L (fun x => x) g id) (newM m id (m id)) (updS (killS s.σ [] [id]) id (.row u 1 els))) id (.row u 1 els) := by
    show Rep _ true (.own id) (.row u 1 _) (newM m id (m id) id)
    have hnm : newM m id (m id) id = .slice (some ⟨g, off, none⟩) els.length c := (if_pos rfl).trans hm'
    refine ⟨_, c, hnm, .inr ⟨g, off, arr, _, q, rfl, ?_, freeze_at hw' arr.size, h8, h9, fun i hi => ?_, h11, RepEls.of fun i' cs' hi' => ?_⟩⟩
    · show newL L _ g id g = some id
      simp [newL]
    · have h1 := h10 i hi
      split
      · left
        show off + i < arr.size
        omega
      · rename_i h2
        have h2 : fr.1 ≠ fr.2 := by simpa using h2
        left
        show off + i < min fr.1 arr.size
        omega
    · obtain ⟨h1, h2⟩ := hE.at_ hi'
      refine ⟨h1, ?_⟩
      have := RepCs.conv (C' := cx (w.freeze ⟨g, arr.size, none⟩ 1) S F (newL L (fun x => x) g id) (newM m id (m id)) (updS (killS s.σ [] [id]) id (.row u 1 els))) (cl' := true) (md' := .own id) (b' := g) (off' := off + i' * 1) (q' := q + i' * 1) (fun x => x) h2 (fun j hj => cell_freeze w g arr.size g _ hw') (fun j c' u _ _ hr => Rep.tr kp.st (trs _) _ _ hr)
      simpa using this
  obtain ⟨e0, e, g1, g2⟩ := cvTy_same hc
  subst e0
  have hrun : (convert src src (.slice (some ⟨g, off, none⟩) els.length c)).run P w = .ok (.slice (some ⟨g, off, none⟩) els.length c) (w.freeze ⟨g, arr.size, none⟩ 1) := by
    simp [convert, run_underlying g1, run_underlying g2, markStringish, shape, freeze, Sem.run, World.shape?, hw']
  have hev : a.eval x = .slice (some ⟨g, off, none⟩) els.length c := he.trans hm'
  refine ⟨_, _, _, .inl ?_, ⟨_, _, (R.wrote hw (by simp) hg0 kp hob).put hd (x := .ref id) ⟨rfl, hone, ?_, ?_⟩⟩, hK, fun h => by cases h⟩
  · simp only [execOp, ho, hev, Sem.run_bind, hrun]
    rfl
  · show (updS (killS s.σ [] [id]) id _ id).isSome = true
    simp [updS, sel]
  · show _ = newM m id (m id) id
    simp only [newM, if_pos]
    exact he
theorem mem_killL {I J : List Id} : ∀ {cs : List AV} {j : Nat} {c : AV}, (killL I J cs)[j]? = some c → ∃ c0, cs[j]? = some c0 ∧ c = c0.kill I J
  | [], _, _, h => by simp [killL] at h
  | d :: cs, 0, c, h => ⟨d, rfl, by simpa [killL] using h.symm⟩
  | d :: cs, j + 1, c, h => by
    obtain ⟨c0, h1, h2⟩ := mem_killL (cs := cs) (j := j) (by simpa [killL] using h)
    exact ⟨c0, by simpa using h1, h2⟩
theorem RepVs.len {C : Cx} {cl : Bool} {md : Md} : ∀ {cs : List AV} {vs : List Value} {q : Nat}, RepVs C cl md q cs vs → vs.length = cs.length
  | [], vs, _, h => by obtain rfl := h; rfl
  | c :: cs, vs, q, h => by obtain ⟨y, ys, rfl, _, h2⟩ := h; simp [RepVs.len h2]
theorem e_store_box {o : Oper} {T : TypeId} {x y : Operand} (ho : o.op = .store T x y) (hd : dOk n o.dst) (R : RelC W0 S F n L m s a w) {t : Nat × Bool} (ht : tySz P T = some t) {id : Id} {sz k : Nat} (hv : s.ev x = .ptr id sz 0 k) {t' : Nat}
    {cs : List AV} (hs : s.σ id = some (.box t' cs)) (hlen : (s.ev y).cells.length = t.1) (hk : k + t.1 ≤ cs.length) (hok : (s.ev y).cells.all okBox = true)
    (hK : K (((s.chg [] [id]).obj id (.box t' (setAt (killL [] [id] (s.ev y).cells) k (killL [] [id] cs)))).put o.dst .any)) : ES false P W0 S F n K o a w := by
  have hx := R.ev x
  have hy := R.ev y
  rw [hv] at hx
  obtain ⟨_, hl, g', off', hg', he⟩ := hx
  obtain ⟨g, arr, hm, hL, hh', harr, hC0⟩ := R.obj id _ hs
  have hm' : m id = .pointer (some ⟨g, 0, none⟩) := hm
  rw [show (cx w S F L m s.σ).m id = m id from rfl, hm'] at hg'
  simp only [hdrAddr, Option.some.injEq, Addr.mk.injEq] at hg'
  obtain ⟨rfl, rfl, _⟩ := hg'
  simp only [Nat.zero_mul, Nat.add_zero, Nat.zero_add] at he
  have hL' : L g = some id := hL
  have hw' : w.heap[g]? = some (.cells arr t' (0, 0)) := hh'
  have hgl := (R.lab g id hL').2
  have hg0 := (R.lab g id hL').1
  have hokc : ∀ c ∈ (s.ev y).cells, okCell c := fun c hc => okCell_box (List.all_eq_true.1 hok c hc)
  have hreps := cells_rep hy hokc
  have hylen : (a.eval y).cells.toList.length = t.1 := by rw [hreps.len, hlen]
  have hone : ∀ u ∈ (a.eval y).cells.toList, one u := fun u hu => by
    obtain ⟨j, hj⟩ := List.mem_iff_getElem?.1 hu
    have hjl := (List.getElem?_eq_some_iff.1 hj).1
    have hc : (s.ev y).cells[j]? = some ((s.ev y).cells[j]'(by omega)) := List.getElem?_eq_getElem _
    obtain ⟨v, h1, h2⟩ := hreps.at_ hc
    rw [hj] at h1
    obtain rfl := Option.some.inj h1
    exact okCell_one (hokc _ (List.getElem_mem _)) h2
  have hw := wrote_setCells hgl (a.eval y).cells.toList k
  have hgid : ∀ p, L g = some p → p = id := fun p hp => by rw [hL'] at hp; exact (Option.some.inj hp).symm
  have kp := keep_wrote R (I := []) (J := [id]) (id := id) (ob := .box t' (setAt (killL [] [id] (s.ev y).cells) k (killL [] [id] cs))) hw (fun z _ => rfl) (by simp)
    (ρ := fun p => p) (fun z r hz => rfl) hgid hg0 (hdr := m id)
    (fun z hz hzl hzj => by
      have : (cmp id z || false) = true := hzj
      rw [Bool.or_false] at this
      exact ⟨(R.ind id z hl hzl this).symm, rfl⟩)
  have hex : ∀ j, j < t.1 → (w.cell? ⟨g, k + j, none⟩).isSome = true := fun j hj => cell_lt hw' (by omega)
  have hrun := run_storeAt (P := P) (w := w) (b := g) (o := k) (v := a.eval y) ht (by simpa using hylen) (fun j hj => ⟨hex j hj, not_frozen hw' (by simp)⟩) hone
  obtain ⟨arr', g1, g2⟩ := setCells_same g (a.eval y).cells.toList k w arr t' (0, 0) hw'
  have hob : RepOb (cx (w.setCells g k (a.eval y).cells.toList) S F (newL L (fun p => p) g id) (newM m id (m id)) (updS (killS s.σ [] [id]) id (.box t' (setAt (killL [] [id] (s.ev y).cells) k (killL [] [id] cs))))) id (.box t' (setAt (killL [] [id] (s.ev y).cells) k (killL [] [id] cs))) := by
    refine ⟨g, arr', (if_pos rfl).trans hm', ?_, g1, by rw [setAt_length, length_killL, g2, harr], RepCs.of fun j c' hj => ?_⟩
    · show newL L _ g id g = some id
      simp [newL]
    · rcases setAt_at hj with ⟨h1, h2⟩ | ⟨h1, h2⟩
      · obtain ⟨c0, h3, rfl⟩ := mem_killL h2
        obtain ⟨u, h4, h5⟩ := hreps.at_ h3
        have hjl' := (List.getElem?_eq_some_iff.1 h4).1
        have h6 := World.cell?_setCells_in g (a.eval y).cells.toList k w (fun j hj => hex j (by omega)) (j - k) hjl'
        rw [show k + (j - k) = j by omega] at h6
        refine ⟨u, by rw [Nat.zero_add]; exact h6.trans (by rw [← h4]; exact (List.getElem?_eq_getElem hjl').symm), hone u (List.mem_of_getElem? h4), Rep.keep kp _ _ h5⟩
      · obtain ⟨c0, h3, rfl⟩ := mem_killL h2
        obtain ⟨u, h4, h5, h6⟩ := hC0.at_ h3
        refine ⟨u, (World.cell?_setCells_out g _ _ w _ (fun _ _ => ?_)).trans h4, h5, Rep.keep kp _ _ h6⟩
        show 0 + j < k ∨ k + (a.eval y).cells.toList.length ≤ 0 + j
        have := (List.getElem?_eq_some_iff.1 h2).1
        rw [length_killL] at h1
        omega
  refine ⟨undef, _, _, .inr ⟨?_, rfl⟩, ⟨_, _, (R.wrote hw (by simp) hg0 kp hob).put hd (x := .any) trivial⟩, hK, fun h => by cases h⟩
  simp only [execOp, ho, he, Sem.run_bind, hrun]
  rfl
theorem e_new {o : Oper} (R : RelC W0 S F n L m s a w) {d : Nat} (hdst : o.dst = some d) (hd : dOk n o.dst) {I : List Id} {ob : OB} {w' : World} (hw : Wrote w w' w.heap.size) {ρ : Id → Id} (hρ : ∀ y r, hit ([d] :: I) y = false → ρ (y ++ r) = y ++ r) {hdr : Value}
    (hrun : (execOp a.eval o).run P w = .ok (.value hdr) w') {x : AV}
    (hob : ∀ (σ' : Id → Option OB), Keep (cx w S F L m s.σ) (cx w' S F (newL L ρ w.heap.size [d]) (newM m [d] hdr) (updS (killS s.σ ([d] :: I) ([d] :: I)) [d] ob)) ([d] :: I) ([d] :: I) → σ' = updS (killS s.σ ([d] :: I) ([d] :: I)) [d] ob → RepOb (cx w' S F (newL L ρ w.heap.size [d]) (newM m [d] hdr) σ') [d] ob)
    (hx : (x = .ref [d] ∧ one hdr) ∨ ∃ g, x = .ptr [d] 0 0 0 ∧ hdr = .pointer (some ⟨g, 0, none⟩))
    (hK : K (((s.chg ([d] :: I) ([d] :: I)).obj [d] ob).put (some d) x)) : ES true P W0 S F n K o a w := by
  have hg : ∀ p, L w.heap.size = some p → p = [d] := fun p hp => absurd (R.lab _ p hp).2 (by omega)
  have kp := keep_wrote R (I := [d] :: I) (J := [d] :: I) (id := [d]) (ob := ob) hw (fun _ h => h) (by simp) hρ hg (.inl R.below.size) (hdr := hdr) (fun y h1 _ h2 => by rw [h1] at h2; cases h2)
  have R' := R.wrote hw (by simp) (.inl R.below.size) kp (hob _ kp rfl)
  have e1 : ((s.chg ([d] :: I) ([d] :: I)).obj [d] ob).σ [d] = some ob := by show updS _ _ _ _ = _; simp [updS, sel]
  have hxr : Rep (cx w' S F (newL L ρ w.heap.size [d]) (newM m [d] hdr) ((s.chg ([d] :: I) ([d] :: I)).obj [d] ob).σ) false (.read .ent) x hdr := by
    have e2 : newM m [d] hdr [d] = hdr := if_pos rfl
    rcases hx with ⟨rfl, h1⟩ | ⟨g, rfl, h1⟩
    · exact ⟨rfl, h1, RelC.live e1, e2.symm⟩
    · refine ⟨rfl, RelC.live e1, g, 0, ?_, by rw [h1]⟩
      show hdrAddr (newM m [d] hdr [d]) = _
      rw [e2, h1]
      rfl
  refine ⟨hdr, w', _, .inl hrun, ⟨_, _, R'.put hd hxr⟩, by rw [hdst]; exact hK, fun _ => ⟨hw.size, fun b hb => hw.other b (by omega) hb⟩⟩
def NS (P : Program) (W0 : Bs) (S F : Nat → Prop) (n : Nat) (K : St → Prop) (o : Oper) (L : Nat → Option Id) (a : Act) (w : World) : Prop :=
  ∃ (hdrOf : Nat → Value) (obj : Obj), (∀ w1 : World, (execOp a.eval o).run P w1 = .ok (.value (hdrOf w1.heap.size)) (w1.alloc obj)) ∧
    ∀ (w' : World) (g : Nat), Wrote w w' g → W0.ok g → L g = none → w'.heap[g]? = some obj → ∃ s', Rel W0 S F n s' (a.put o.dst (hdrOf g)) w' ∧ K s'
theorem NS.es {o : Oper} (h : NS P W0 S F n K o L a w) (R : RelC W0 S F n L m s a w) : ES true P W0 S F n K o a w := by
  obtain ⟨hdrOf, obj, hrun, h⟩ := h
  have hw := wrote_alloc w obj
  obtain ⟨s', hR, hK⟩ := h (w.alloc obj) w.heap.size hw (.inl R.below.size) (by
    cases hL : L w.heap.size with
    | none => rfl
    | some p => exact absurd (R.lab _ p hL).2 (by omega)) (alloc_heap w obj)
  exact ⟨_, _, s', .inl (hrun w), hR, hK, fun _ => ⟨hw.size, fun b hb => hw.other b (by omega) hb⟩⟩
theorem e_newR {o : Oper} (R : RelC W0 S F n L m s a w) {d : Nat} (hdst : o.dst = some d) (hd : dOk n o.dst) {I : List Id} {ob : OB} {ρ : Id → Id} (hρ : ∀ y r, hit ([d] :: I) y = false → ρ (y ++ r) = y ++ r) {hdrOf : Nat → Value} {obj : Obj} {x : AV}
    (hob : ∀ (w' : World) (g : Nat) (σ' : Id → Option OB), Wrote w w' g → (∀ p, L g ≠ some p) → w'.heap[g]? = some obj → Keep (cx w S F L m s.σ) (cx w' S F (newL L ρ g [d]) (newM m [d] (hdrOf g)) (updS (killS s.σ ([d] :: I) ([d] :: I)) [d] ob)) ([d] :: I) ([d] :: I) → σ' = updS (killS s.σ ([d] :: I) ([d] :: I)) [d] ob → RepOb (cx w' S F (newL L ρ g [d]) (newM m [d] (hdrOf g)) σ') [d] ob)
    (hx : ∀ g, (x = .ref [d] ∧ one (hdrOf g)) ∨ ∃ g', x = .ptr [d] 0 0 0 ∧ hdrOf g = .pointer (some ⟨g', 0, none⟩)) (w' : World) (g : Nat) (hw : Wrote w w' g) (hg0 : W0.ok g) (hL : L g = none) (hh : w'.heap[g]? = some obj) :
    RelC W0 S F n (newL L ρ g [d]) (newM m [d] (hdrOf g)) (((s.chg ([d] :: I) ([d] :: I)).obj [d] ob).put o.dst x) (a.put o.dst (hdrOf g)) w' := by
  have hg : ∀ p, L g = some p → p = [d] := fun p hp => by rw [hL] at hp; cases hp
  have kp := keep_wrote R (I := [d] :: I) (J := [d] :: I) (id := [d]) (ob := ob) hw (fun _ h => h) (by simp) hρ hg hg0 (hdr := hdrOf g) (fun y h1 _ h2 => by rw [h1] at h2; cases h2)
  have R' := R.wrote hw (by simp) hg0 kp (hob w' g _ hw (fun p hp => by rw [hL] at hp; cases hp) hh kp rfl)
  have e1 : ((s.chg ([d] :: I) ([d] :: I)).obj [d] ob).σ [d] = some ob := by show updS _ _ _ _ = _; simp [updS, sel]
  have hxr : Rep (cx w' S F (newL L ρ g [d]) (newM m [d] (hdrOf g)) ((s.chg ([d] :: I) ([d] :: I)).obj [d] ob).σ) false (.read .ent) x (hdrOf g) := by
    have e2 : newM m [d] (hdrOf g) [d] = hdrOf g := if_pos rfl
    rcases hx g with ⟨rfl, h1⟩ | ⟨g', rfl, h1⟩
    · exact ⟨rfl, h1, RelC.live e1, e2.symm⟩
    · refine ⟨rfl, RelC.live e1, g', 0, ?_, by rw [h1]⟩
      show hdrAddr (newM m [d] (hdrOf g) [d]) = _
      rw [e2, h1]
      rfl
  exact R'.put hd hxr
theorem e_newN {o : Oper} (R : RelC W0 S F n L m s a w) {d : Nat} (hdst : o.dst = some d) (hd : dOk n o.dst) {I : List Id} {ob : OB} {ρ : Id → Id} (hρ : ∀ y r, hit ([d] :: I) y = false → ρ (y ++ r) = y ++ r) {hdrOf : Nat → Value} {obj : Obj}
    (hrun : ∀ w1 : World, (execOp a.eval o).run P w1 = .ok (.value (hdrOf w1.heap.size)) (w1.alloc obj)) {x : AV}
    (hob : ∀ (w' : World) (g : Nat) (σ' : Id → Option OB), Wrote w w' g → (∀ p, L g ≠ some p) → w'.heap[g]? = some obj → Keep (cx w S F L m s.σ) (cx w' S F (newL L ρ g [d]) (newM m [d] (hdrOf g)) (updS (killS s.σ ([d] :: I) ([d] :: I)) [d] ob)) ([d] :: I) ([d] :: I) → σ' = updS (killS s.σ ([d] :: I) ([d] :: I)) [d] ob → RepOb (cx w' S F (newL L ρ g [d]) (newM m [d] (hdrOf g)) σ') [d] ob)
    (hx : ∀ g, (x = .ref [d] ∧ one (hdrOf g)) ∨ ∃ g', x = .ptr [d] 0 0 0 ∧ hdrOf g = .pointer (some ⟨g', 0, none⟩))
    (hK : K (((s.chg ([d] :: I) ([d] :: I)).obj [d] ob).put (some d) x)) : NS P W0 S F n K o L a w :=
  ⟨hdrOf, obj, hrun, fun w' g hw hg0 hL hh => ⟨_, ⟨_, _, e_newR R hdst hd hρ hob hx w' g hw hg0 hL hh⟩, by rw [hdst]; exact hK⟩⟩
theorem rep_at (R : RelC W0 S F n L m s a w) {id : Id} {e sz : Nat} {els : List (List AV)} (hs : s.σ id = some (.row e sz els)) {j : Nat} {e1 sz1 : Nat} {xs : List (List AV)} (hj : els[j]? = some [.row e1 sz1 xs]) {g c : Nat} (hm : m id = .slice (some ⟨g, 0, none⟩) els.length c) {y : Value} (hy : w.cell? ⟨g, j * sz, none⟩ = some y) :
    Rep (cx w S F L m s.σ) false (.read .ent) (.rd (.at id sz j 0) e1 sz1 xs) y := by
  obtain ⟨_, A, c', hm', _, _, hE⟩ := R.row hs
  have hm0 : m id = .slice A els.length c' := hm'
  rw [hm] at hm0
  injection hm0 with hA _ _
  subst hA
  rcases hE with rfl | ⟨b, off', he, hb, hE⟩
  · simp at hj
  · simp only [Option.some.injEq, Addr.mk.injEq] at he
    obtain ⟨rfl, rfl, _⟩ := he
    obtain ⟨_, hC⟩ := hE.at_ hj
    obtain ⟨y', h1, _, h3⟩ := hC.at_ (k := 0) rfl
    have hy' : y' = y := by
      have h1 : (cx w S F L m s.σ).w.cell? ⟨g, j * sz, none⟩ = some y' := by simpa using h1
      have h1 : w.cell? ⟨g, j * sz, none⟩ = some y' := h1
      rw [hy] at h1
      exact (Option.some.inj h1).symm
    subst hy'
    have hLb : L g = some id := by
      obtain ⟨A', c', hm', hown⟩ := R.obj id _ hs
      rw [show (cx w S F L m s.σ).m id = m id from rfl, hm] at hm'
      injection hm' with e1 _ _
      subst e1
      rcases hown with ⟨hh, _⟩ | ⟨g', off', arr, fr, q, h1, h2, _⟩
      · rw [hh] at hj; simp at hj
      · injection h1 with h1; injection h1 with h1; subst h1; exact h2
    have h4 : Rep (cx w S F L m s.σ) true (.read (.at id sz j 0)) (.row e1 sz1 xs) y' := Rep.tr (Stays.refl _) (show Tr _ _ (.read (.obj id)) (.read (.at id _ _ _)) from ⟨fun h => h, fun _ h => ⟨h, rfl⟩⟩) _ _ h3
    exact ⟨by simp, ⟨RelC.live hs, g, 0, by rw [show (cx w S F L m s.σ).m id = m id from rfl, hm]; rfl, hLb, by show w.cell? ⟨g, 0 + (j * sz + 0), none⟩ = some _; simpa using hy⟩, h4.2⟩
theorem zeroC_run {e : TypeId} {z : List AV} (h : zeroC P e = some z) : ∃ i v, P.info? e = some i ∧ i.zero = some v ∧ v.cells.size = i.size ∧ z = v.cells.toList.map .v ∧ ∀ u ∈ v.cells.toList, one u := by
  unfold zeroC at h
  split at h
  · rename_i i hi
    split at h
    · rename_i v hv
      split at h
      · rename_i hc
        simp only [Bool.and_eq_true, beq_iff_eq] at hc
        exact ⟨i, v, hi, hv, hc.2, (Option.some.inj h).symm, fun u hu => oneB_iff.1 ((Array.all_eq_true'.1 hc.1) u (by simpa using hu))⟩
      · cases h
    · cases h
  · cases h
theorem e_convert_ofs {o : Oper} {src dt : TypeId} {x : Operand} (ho : o.op = .convert src dt x) (hd : dOk n o.dst) (R : RelC W0 S F n L m s a w) {e : Nat} (hc : cvTy P src dt = some (.ofs e)) {d : Nat} (hdst : o.dst = some d) {b : ByteArray} (hv : s.ev x = .v (.string b)) (hb : b.size ≤ 140737488355328)
    (hK : K (s.new d (.row e 1 (strEls b)) (.ref [d]))) : ES false P W0 S F n K o a w := by
  obtain ⟨g1, g2, g3, _⟩ := cvTy_ofs hc
  have hx := R.ev x
  rw [hv] at hx
  have hrun := Go.Lib.run_convert_string_bytes (P := P) w src dt e b g1 g2 g3
  have hcap : b.size ≤ grownCap w b.size 0 e := grownCap_ge w b.size 0 e
  have hlen : (strEls b).length = b.size := by
    show (b.data.toList.map byteC).length = b.data.size
    rw [List.length_map, Array.length_toList]
  have hsz : (Go.Lib.bytesCells w e b).size = grownCap w b.size 0 e := by
    have h1 : b.data.size = b.size := rfl
    simp only [Go.Lib.bytesCells, Array.size_append, Array.size_map, Array.size_replicate, h1]; omega
  have hw : Wrote w (Go.Lib.bytesWorld w e b) w.heap.size := by
    have h1 := wrote_drew_alloc w (.cells (Go.Lib.bytesCells w e b) e)
    have h2 := wrote_freeze (w := w.drew.alloc (.cells (Go.Lib.bytesCells w e b) e)) (g := w.heap.size) h1.lt (Go.Lib.bytesCells w e b).size
    exact ⟨h2.os.trans h1.os, h2.tape.trans h1.tape, h2.output.trans h1.output, Nat.le_trans h1.size h2.size, fun k hk hl => (h2.other k hk (Nat.lt_of_lt_of_le hl h1.size)).trans (h1.other k hk hl), h2.lt⟩
  have key : ES true P W0 S F n K o a w := by
    refine e_new R hdst hd (I := []) (ob := .row e 1 (strEls b)) (ρ := fun p => p) hw (fun _ _ _ => rfl) (hdr := .slice (some ⟨w.heap.size, 0, none⟩) b.size (grownCap w b.size 0 e)) ?_ (fun σ' kp hσ => ?_) (.inl ⟨rfl, trivial⟩) hK
    · simp only [execOp, ho, hx.1, Sem.run_bind, hrun]; rfl
    · refine ⟨some ⟨w.heap.size, 0, none⟩, grownCap w b.size 0 e, by rw [hlen]; exact if_pos rfl, .inr ⟨w.heap.size, 0, Go.Lib.bytesCells w e b, _, 0, rfl, by show newL L _ _ _ _ = _; simp [newL], Go.Lib.bytesWorld_at_new w e b, by rw [hlen]; exact hcap, by rw [hsz]; omega, fun i hi => .inl (by rw [hsz]; omega), by rw [hlen, BIG_eq]; exact hb, RepEls.of fun i' cs hcs => ?_⟩⟩
      have hi : i' < b.size := by
        have := (List.getElem?_eq_some_iff.1 hcs).1
        rwa [hlen] at this
      have hcs' : cs = byteC (b.data.toList.getD i' 0) := by
        have hi2 : i' < b.data.toList.length := by rw [Array.length_toList]; exact hi
        have : (strEls b)[i']? = some (byteC (b.data.toList.getD i' 0)) := by simp only [strEls, bytesA, List.getElem?_map, List.getElem?_eq_getElem hi2, Option.map_some, List.getD_eq_getElem?_getD, Option.getD_some]
        rw [this] at hcs
        exact (Option.some.inj hcs).symm
      subst hcs'
      refine ⟨rfl, RepCs.of fun j c' hj => ?_⟩
      match j, hj with
      | 0, hj =>
        obtain rfl : AV.v (.int .u8 (b.data.toList.getD i' 0).toNat) = c' := by simpa [byteC] using hj
        refine ⟨.int .u8 (b.data.toList.getD i' 0).toNat, ?_, trivial, rep_v trivial⟩
        have := Go.Lib.bytesWorld_cell w e b i' hi
        show (Go.Lib.bytesWorld w e b).cell? _ = _
        simpa using this
      | j + 1, hj => simp [byteC] at hj
  obtain ⟨v', w', s', h1, h2, h3, _⟩ := key
  exact ⟨v', w', s', h1, h2, h3, fun h => by cases h⟩
theorem n_makeMap {o : Oper} {t : TypeId} (ho : o.op = .makeMap t none) (hd : dOk n o.dst) (R : RelC W0 S F n L m s a w) (h : opE P H o.dst (.makeMap t none) s K) : NS P W0 S F n K o L a w := by
  obtain ⟨ty, _, h1⟩ := onSome.elim (show onSome _ _ from h)
  obtain ⟨d, hdst, h2⟩ := onSome.elim h1
  refine e_newN R hdst hd (I := []) (ob := .mp ty.1 ty.2 []) (ρ := fun p => p) (fun _ _ _ => rfl) (hdrOf := fun g => .map (some g)) (obj := .map #[] 0) (fun w1 => ?_) (fun w' g σ' hw hL hh _ _ => ?_) (fun _ => .inl ⟨rfl, trivial⟩) h2
  · simp only [execOp, ho]
    rfl
  · exact ⟨g, #[], 0, if_pos rfl, by show newL L _ _ _ _ = _; simp [newL], hh, rfl, fun x hx => by simp at hx⟩
theorem e_makeMap {o : Oper} {t : TypeId} (ho : o.op = .makeMap t none) (hd : dOk n o.dst) (R : RelC W0 S F n L m s a w) (h : opE P H o.dst (.makeMap t none) s K) : ES true P W0 S F n K o a w := (n_makeMap ho hd R h).es R
theorem mput_mem {k v : Value} : ∀ {l : List (Value × Value)} {q : Value × Value}, q ∈ mput l k v → q = (k, v) ∨ q ∈ l
  | [], q, h => .inl (by simpa [mput] using h)
  | p :: l, q, h => by
    have h : q ∈ sel (kEq p.1 k) ((k, v) :: l) (p :: mput l k v) := h
    cases hk : kEq p.1 k with
    | true =>
      rw [hk] at h
      rcases List.mem_cons.1 h with h | h
      · exact .inl h
      · exact .inr (.tail _ h)
    | false =>
      rw [hk] at h
      rcases List.mem_cons.1 h with rfl | h
      · exact .inr (.head _)
      · rcases mput_mem h with h | h
        · exact .inl h
        · exact .inr (.tail _ h)
theorem e_mapUpdate {o : Oper} {T : TypeId} {x i y : Operand} (ho : o.op = .mapUpdate T x i y) (hd : dOk n o.dst) (R : RelC W0 S F n L m s a w) (h : opE P H o.dst (.mapUpdate T x i y) s K) : ES false P W0 S F n K o a w := by
  have hx := R.ev x
  have hi := R.ev i
  have hy := R.ev y
  obtain ⟨⟨d, e⟩, ht, h1⟩ := onSome.elim (show onSome _ _ from h)
  rcases onRef.elim h1 with ⟨id, hv, h3⟩ | ⟨b, hv, h3⟩ | h3
  · obtain ⟨d', e', l, hs, h4⟩ := onMp.elim h3
    obtain ⟨u, hu, h5⟩ := onV.elim h4
    obtain ⟨v, hvv, h6⟩ := onV.elim h5
    obtain ⟨⟨rfl, hk⟩, hK⟩ := h6
    obtain ⟨k, hT, hkd⟩ := mapTy_run ht
    obtain ⟨g, es, clock, g1, g2, g3, g4, g5⟩ := R.obj id _ hs
    rw [hv] at hx
    rw [hu] at hi
    rw [hvv] at hy
    have g1' : m id = .map (some g) := g1
    have he : a.eval x = .map (some g) := hx.2.2.2.trans g1'
    have hL : L g = some id := g2
    have hgl := (R.lab g id hL).2
    have hg0 := (R.lab g id hL).1
    have hl : pairsOf es.toList = l := g4
    obtain ⟨es', clock', hrun, hp, hks⟩ := run_mapUpdate_own (P := P) (value := v) hT hkd g3 (fun x hx => (g5 x hx).1) hk
    have hw : Wrote w { w with heap := w.heap.setIfInBounds g (.map es' clock') } g :=
      ⟨rfl, rfl, rfl, by simp, fun b hb _ => by simp [Array.getElem?_setIfInBounds, Ne.symm hb], by simpa using hgl⟩
    have hgid : ∀ p, L g = some p → p = id := fun p hp => by rw [hL] at hp; exact (Option.some.inj hp).symm
    have kp := keep_wrote R (I := []) (J := [id]) (id := id) (ob := .mp d' e' (mput l u v)) hw (fun z _ => rfl) (by simp)
      (ρ := fun p => p) (fun z r hz => rfl) hgid hg0 (hdr := m id)
      (fun z hz hzl hzj => by
        have : (cmp id z || false) = true := hzj
        rw [Bool.or_false] at this
        exact ⟨(R.ind id z (by show (s.σ id).isSome = true; rw [hs]; rfl) hzl this).symm, rfl⟩)
    have hob : RepOb (cx { w with heap := w.heap.setIfInBounds g (.map es' clock') } S F (newL L (fun p => p) g id) (newM m id (m id)) (updS (killS s.σ [] [id]) id (.mp d' e' (mput l u v)))) id (.mp d' e' (mput l u v)) := by
      refine ⟨g, es', clock', (if_pos rfl).trans g1', ?_, ?_, by rw [← hl]; exact hp, fun z hz => ⟨hks z hz, ?_⟩⟩
      · show newL L _ g id g = some id
        simp [newL]
      · show (w.heap.setIfInBounds g (.map es' clock'))[g]? = _
        simp [hgl]
      · have hz' : (z.key, z.val) ∈ mput (pairsOf es.toList) u v := by rw [← hp]; exact List.mem_map_of_mem hz
        rcases mput_mem hz' with h | h
        · rw [show z.val = v from (Prod.mk.inj h).2]; exact hy.2
        · obtain ⟨z', h1, h2⟩ := List.mem_map.1 h
          rw [show z.val = z'.val from (Prod.mk.inj h2).2.symm]
          exact (g5 z' h1).2
    refine ⟨undef, _, _, .inr ⟨?_, rfl⟩, ⟨_, _, (R.wrote hw (by simp) hg0 kp hob).put hd (x := .any) trivial⟩, hK, fun h => by cases h⟩
    have hrun : (Instr.mapUpdate T (.map (some g)) u v).run P w = _ := hrun
    simp only [execOp, ho, he, hi.1, hy.1, Sem.run_bind, hrun]
    rfl
  · exact h3.elim
  · exact h3.elim
theorem n_alloc {o : Oper} {t : TypeId} (ho : o.op = .alloc t) (hd : dOk n o.dst) (R : RelC W0 S F n L m s a w) (h : opE P H o.dst (.alloc t) s K) : NS P W0 S F n K o L a w := by
  obtain ⟨z, hz, h1⟩ := onSome.elim (show onSome _ _ from h)
  obtain ⟨d, hdst, h2⟩ := onSome.elim h1
  obtain ⟨i, v, hi, hv, hsz, rfl, hone⟩ := zeroC_run hz
  refine e_newN R hdst hd (I := []) (ob := .box t (v.cells.toList.map .v)) (ρ := fun p => p) (fun _ _ _ => rfl) (hdrOf := fun g => .pointer (some ⟨g, 0, none⟩)) (obj := .cells v.cells t) (fun w1 => ?_) (fun w' g σ' hw hL hh _ _ => ?_) (fun _ => .inr ⟨_, rfl, rfl⟩) h2
  · simp [execOp, ho, Instr.alloc, zeroValue, typeInfo, hi, hv, newVar, newRow]
  · refine ⟨g, v.cells, if_pos rfl, by show newL L _ _ _ _ = _; simp [newL], hh, by simp, RepCs.of fun j c hj => ?_⟩
    rw [List.getElem?_map] at hj
    obtain ⟨u, hu, rfl⟩ := Option.map_eq_some_iff.1 hj
    refine ⟨u, ?_, hone u (List.mem_of_getElem? hu), rep_v (hone u (List.mem_of_getElem? hu))⟩
    show w'.cell? _ = _
    unfold World.cell?
    rw [show w'.heap[g]? = _ from hh]
    simpa using hu
theorem e_alloc {o : Oper} {t : TypeId} (ho : o.op = .alloc t) (hd : dOk n o.dst) (R : RelC W0 S F n L m s a w) (h : opE P H o.dst (.alloc t) s K) : ES true P W0 S F n K o a w := (n_alloc ho hd R h).es R
theorem n_box {o : Oper} {t : TypeId} {x : Operand} (ho : o.op = .box t x) (hd : dOk n o.dst) (R : RelC W0 S F n L m s a w) (h : opE P H o.dst (.box t x) s K) : NS P W0 S F n K o L a w := by
  obtain ⟨y, hy, h1⟩ := onSome.elim (show onSome _ _ from h)
  obtain ⟨d, hdst, ⟨hlen, hok⟩, h2⟩ := onSome.elim h1
  have hok : (s.ev x).cells.all okBox = true := hok
  have hx := R.ev x
  have hokc : ∀ c ∈ (s.ev x).cells, okCell c := fun c hc => okCell_box (List.all_eq_true.1 hok c hc)
  have hreps := cells_rep hx hokc
  have hone : ∀ u ∈ (a.eval x).cells.toList, one u := fun u hu => by
    obtain ⟨j, hj⟩ := List.mem_iff_getElem?.1 hu
    have hjl := (List.getElem?_eq_some_iff.1 hj).1
    rw [hreps.len] at hjl
    have hc : (s.ev x).cells[j]? = some ((s.ev x).cells[j]'hjl) := List.getElem?_eq_getElem _
    obtain ⟨v, h1, h2⟩ := hreps.at_ hc
    rw [hj] at h1
    obtain rfl := Option.some.inj h1
    exact okCell_one (hokc _ (List.getElem_mem _)) h2
  refine e_newN R hdst hd (I := []) (ob := .box t (killL [[d]] [[d]] (s.ev x).cells)) (ρ := fun p => p) (fun _ _ _ => rfl) (hdrOf := fun g => .pointer (some ⟨g, 0, none⟩)) (obj := .cells (a.eval x).cells t) (fun w1 => ?_) (fun w' g σ' hw hL hh kp hσ => ?_) (fun _ => .inr ⟨_, rfl, rfl⟩) h2
  · simp [execOp, ho, Instr.box, newVar, newRow]
  · subst hσ
    refine ⟨g, (a.eval x).cells, if_pos rfl, by show newL L _ _ _ _ = _; simp [newL], hh, by rw [length_killL, ← hreps.len]; simp, RepCs.of fun j c hj => ?_⟩
    obtain ⟨c0, h3, rfl⟩ := mem_killL hj
    obtain ⟨u, h4, h5⟩ := hreps.at_ h3
    refine ⟨u, ?_, hone u (List.mem_of_getElem? h4), Rep.keep kp _ _ h5⟩
    show w'.cell? _ = _
    unfold World.cell?
    rw [show w'.heap[g]? = _ from hh]
    simpa using h4
theorem e_box {o : Oper} {t : TypeId} {x : Operand} (ho : o.op = .box t x) (hd : dOk n o.dst) (R : RelC W0 S F n L m s a w) (h : opE P H o.dst (.box t x) s K) : ES true P W0 S F n K o a w := (n_box ho hd R h).es R
theorem n_make {o : Oper} {T : TypeId} {x y : Operand} (ho : o.op = .makeSlice T x y) (hd : dOk n o.dst) (R : RelC W0 S F n L m s a w) (h : opE P H o.dst (.makeSlice T x y) s K) : NS P W0 S F n K o L a w := by
  obtain ⟨⟨e, sz, by_⟩, ht, h1⟩ := onSome.elim (show onSome _ _ from h)
  obtain ⟨z, hz, h1⟩ := onSome.elim h1
  obtain ⟨d, hdst, h1⟩ := onSome.elim h1
  obtain ⟨kl, l, hl, h1⟩ := onInt.elim h1
  obtain ⟨kc, c, hc, h1⟩ := onInt.elim h1
  obtain ⟨⟨h0, hlc, hby, hpos⟩, h2⟩ := h1
  have hx := R.ev x
  have hy := R.ev y
  rw [hl] at hx
  rw [hc] at hy
  obtain ⟨i, v, hi, hv, hsz, rfl, hone⟩ := zeroC_run hz
  obtain ⟨i', hu, hi', rfl, rfl⟩ := elTy_run ht
  simp only at hi
  rw [hi] at hi'
  obtain rfl := Option.some.inj hi'
  have hby' : (i.bytes : Int) * c ≤ 140737488355328 := by rw [Int.mul_comm]; exact hby
  have hpos' : (1 : Int) ≤ i.bytes := by have : 0 < i.bytes := hpos; omega
  have hcb : c ≤ 140737488355328 := by
    have : 1 * c ≤ (i.bytes : Int) * c := Int.mul_le_mul_of_nonneg_right hpos' (by omega)
    omega
  have hrun := fun w1 => run_make (P := P) w1 T e i v hu hi hv kl kc l c h0 hlc (by omega) (by omega)
  refine e_newN R hdst hd (I := []) (ob := .row e i.size (List.replicate l.toNat (nilL (cty P e) (v.cells.toList.map .v)))) (ρ := fun p => p) (fun _ _ _ => rfl) (hdrOf := fun g => .slice (some ⟨g, 0, none⟩) l.toNat c.toNat) (obj := .cells (madeCells v.cells (c.toNat * i.size)) e) (fun w1 => ?_) (fun w' g σ' hw hL hh kp hσ => ?_) (fun _ => .inl ⟨rfl, trivial⟩) h2
  · simp only [execOp, ho, hx.1, hy.1, Sem.run_bind, hrun w1]; rfl
  · refine ⟨some ⟨g, 0, none⟩, c.toNat, by rw [List.length_replicate]; exact if_pos rfl, .inr ⟨g, 0, madeCells v.cells (c.toNat * i.size), (0, 0), 0, rfl, by show newL L _ _ _ _ = _; simp [newL], hh, by rw [List.length_replicate]; omega, by rw [size_madeCells]; omega, fun _ _ => .inr rfl, by rw [List.length_replicate, BIG_eq]; omega, RepEls.of fun i' cs hcs => ?_⟩⟩
    obtain ⟨hi1, rfl⟩ := List.getElem?_eq_some_iff.1 hcs
    rw [List.length_replicate] at hi1
    rw [List.getElem_replicate]
    refine ⟨by rw [nilL_length]; simpa using hsz, RepCs.of fun j c' hj => ?_⟩
    obtain ⟨ty, u, h3, rfl⟩ := nilL_at hj
    rw [List.getElem?_map] at h3
    obtain ⟨u', hu', rfl⟩ := Option.map_eq_some_iff.1 h3
    have hjl : j < i.size := by
      have := (List.getElem?_eq_some_iff.1 hu').1
      simp at this; omega
    refine ⟨u', ?_, hone u' (List.mem_of_getElem? hu'), rep_nilC (rep_v (hone u' (List.mem_of_getElem? hu'))) ty⟩
    show w'.cell? _ = _
    unfold World.cell?
    rw [show w'.heap[g]? = _ from hh]
    have hlt : i' * i.size + j < c.toNat * i.size := by
      have : (i' + 1) * i.size ≤ c.toNat * i.size := Nat.mul_le_mul_right _ (by omega)
      rw [Nat.add_mul] at this
      omega
    have hmod : (i' * i.size + j) % v.cells.size = j := by rw [hsz, Nat.add_comm, Nat.add_mul_mod_self_right, Nat.mod_eq_of_lt hjl]
    have hget : v.cells[j]! = u' := by
      have : v.cells[j]? = some u' := by simpa using hu'
      simp [getElem!_def, this]
    simp [madeCells, hlt, hmod, hget]
theorem e_make {o : Oper} {T : TypeId} {x y : Operand} (ho : o.op = .makeSlice T x y) (hd : dOk n o.dst) (R : RelC W0 S F n L m s a w) (h : opE P H o.dst (.makeSlice T x y) s K) : ES true P W0 S F n K o a w := (n_make ho hd R h).es R
theorem RepVs.of {C : Cx} {cl : Bool} {md : Md} : ∀ {cs : List AV} {vs : List Value} {q : Nat}, vs.length = cs.length → (∀ (j : Nat) c, cs[j]? = some c → ∃ y, vs[j]? = some y ∧ Rep C cl (md.sub (q + j)) c y) → RepVs C cl md q cs vs
  | [], vs, q, hl, _ => List.eq_nil_of_length_eq_zero hl
  | c :: cs, [], q, hl, _ => by simp at hl
  | c :: cs, v :: vs, q, hl, h => by
    obtain ⟨y, h1, h2⟩ := h 0 c (by simp)
    obtain rfl : v = y := by simpa using h1
    refine ⟨v, vs, rfl, by simpa using h2, RepVs.of (by simpa using hl) fun j c' hj => ?_⟩
    obtain ⟨y, h1, h2⟩ := h (j + 1) c' (by simpa using hj)
    exact ⟨y, by simpa using h1, by rwa [show q + 1 + j = q + (j + 1) by omega]⟩
theorem bldTy_st {T : TypeId} {l : List (Nat × Nat)} (h : bldTy P T = some (.st l)) : ∃ fs, P.underlying T = some (.struct fs) ∧ fs.toList.mapM (fun f => (P.info? f.type).map fun i => (f.offset, i.size)) = some l := by
  unfold bldTy at h
  split at h
  · rename_i fs hu
    obtain ⟨l', h1, h2⟩ := Option.map_eq_some_iff.1 h
    injection h2 with h2
    subst h2
    exact ⟨fs, hu, h1⟩
  · obtain ⟨l', h1, h2⟩ := Option.map_eq_some_iff.1 h
    cases h2
  · cases h
theorem bldTy_ar {T : TypeId} {sz : Nat} (h : bldTy P T = some (.ar sz)) : ∃ n e i, P.underlying T = some (.array n e) ∧ P.info? e = some i ∧ i.size = sz := by
  unfold bldTy at h
  split at h
  · obtain ⟨l', h1, h2⟩ := Option.map_eq_some_iff.1 h
    cases h2
  · rename_i n e hu
    obtain ⟨l', h1, h2⟩ := Option.map_eq_some_iff.1 h
    injection h2 with h2
    exact ⟨n, e, l', hu, h1, h2⟩
  · cases h
theorem places_run : ∀ {fs : List Field} {l : List (Nat × Nat)}, fs.mapM (fun f => (P.info? f.type).map fun i => (f.offset, i.size)) = some l → ∀ w : World, (fs.mapM fun f => do Pure.pure (f.offset, ← sizeOf f.type) : Sem (List (Nat × Nat))).run P w = .ok l w
  | [], l, h, w => by simp at h; subst h; simp
  | f :: fs, l, h, w => by
    rw [List.mapM_cons] at h
    cases h1 : P.info? f.type with
    | none => rw [h1] at h; simp at h
    | some i =>
      rw [h1] at h
      cases h2 : fs.mapM (fun f => (P.info? f.type).map fun i => (f.offset, i.size)) with
      | none => rw [h2] at h; simp at h
      | some l' =>
        rw [h2] at h
        simp at h
        subst h
        have := places_run h2 w
        simp [List.mapM_cons, sizeOf, typeInfo, h1] at this ⊢
        simp [this]
theorem fill_sound (R : RelC W0 S F n L m s a w) {b : Bld} {pl : Nat → Option (Nat × Nat)} (hpl : ∀ i, pl i = b.at i) : ∀ {l : List (Nat × Operand)} {cs cs' : List AV} {vs : Array Value}, fillE s b cs l = some cs' → RepVs (cx w S F L m s.σ) false (.read .ent) 0 cs vs.toList →
    ∃ vs' : Array Value, Instr.fill pl vs (l.map fun x => (x.1, a.eval x.2)) = some vs' ∧ vs'.size = vs.size ∧ RepVs (cx w S F L m s.σ) false (.read .ent) 0 cs' vs'.toList
  | [], cs, cs', vs, h, hr => by obtain rfl := Option.some.inj h; exact ⟨vs, rfl, rfl, hr⟩
  | x :: l, cs, cs', vs, h, hr => by
    simp only [fillE] at h
    obtain ⟨⟨off, sz⟩, hb, h⟩ := bindO_eq h
    cases hc : (okCells (s.ev x.2).cells sz && Nat.ble (off + sz) cs.length) <;> simp only [hc] at h
    · cases h
    · simp only [okCells, Bool.and_eq_true, beq_iff_eq] at hc
      obtain ⟨⟨hlen, hok⟩, hle⟩ := hc
      have hle : off + sz ≤ cs.length := Nat.le_of_ble_eq_true hle
      have hrx := cells_rep (R.ev x.2) (fun c hc => okCell_box (List.all_eq_true.1 hok c hc))
      have hxl : (a.eval x.2).cells.size = sz := by simpa [hlen] using hrx.len
      have hvl : vs.size = cs.length := by simpa using hr.len
      obtain ⟨g1, g2⟩ := Great.foldl_set off (a.eval x.2).cells.toList 0 vs
      have e0 : (a.eval x.2).cells.zipIdx.foldl (fun cs (x : Value × Nat) => cs.setIfInBounds (off + x.2) x.1) vs = ((a.eval x.2).cells.toList.zipIdx 0).foldl (fun cs (x : Value × Nat) => cs.setIfInBounds (off + x.2) x.1) vs := by
        rw [← Array.foldl_toList, Array.toList_zipIdx]
      have hr' : RepVs (cx w S F L m s.σ) false (.read .ent) 0 (setAt (s.ev x.2).cells off cs) (((a.eval x.2).cells.toList.zipIdx 0).foldl (fun cs (x : Value × Nat) => cs.setIfInBounds (off + x.2) x.1) vs).toList := by
        refine RepVs.of (by rw [setAt_length]; simp [g1, hvl]) fun j c hj => ?_
        have hjl := (List.getElem?_eq_some_iff.1 hj).1
        rw [setAt_length] at hjl
        have hg := g2 j
        rcases setAt_at hj with ⟨h1, h2⟩ | ⟨h1, h2⟩
        · obtain ⟨u, h3, h4⟩ := hrx.at_ h2
          have h5 := (List.getElem?_eq_some_iff.1 h2).1
          rw [if_pos ⟨by omega, by simp [hxl]; omega, by omega⟩] at hg
          refine ⟨u, ?_, h4⟩
          rw [← h3, Array.getElem?_toList, hg, Nat.add_zero]
        · obtain ⟨u, h3, h4⟩ := hr.at_ h2
          rw [if_neg (by simp [hxl]; omega)] at hg
          refine ⟨u, ?_, h4⟩
          rw [← h3, Array.getElem?_toList, hg]
          simp
      obtain ⟨vs', h1, h2, h3⟩ := fill_sound R hpl h hr'
      refine ⟨vs', ?_, h2.trans g1, h3⟩
      rw [List.map_cons, Instr.fill, hpl x.1, hb]
      simp only
      rw [if_neg (by simp [hxl]; omega), e0]
      exact h1
theorem q_build {mf : Bool} {o : Oper} {T : TypeId} {ps : Array (Nat × Operand)} (ho : o.op = .build T ps) (hd : dOk n o.dst) (R : RelC W0 S F n L m s a w) (h : opE P H o.dst (.build T ps) s K) : QS mf P W0 S F n K o a w := by
  obtain ⟨b, hb, h1⟩ := onSome.elim (show onSome _ _ from h)
  obtain ⟨z, hz, h1⟩ := onSome.elim h1
  obtain ⟨cs, hcs, h2⟩ := onSome.elim h1
  obtain ⟨i, v, hi, hv, hsz, rfl, hone⟩ := zeroC_run hz
  have hz0 : RepVs (cx w S F L m s.σ) false (.read .ent) 0 (v.cells.toList.map .v) v.cells.toList := repVs_v _ _ _ hone
  cases b with
  | st l =>
    obtain ⟨fs, hu, hl⟩ := bldTy_st hb
    obtain ⟨vs', g1, g2, g3⟩ := fill_sound R (pl := fun i => l[i]?) (b := .st l) (fun i => rfl) hcs hz0
    refine QS.of R hd (v := .agg vs') (x := .agg cs) (fun w' _ => ?_) ⟨vs', rfl, g3⟩ h2
    have hp := places_run hl w'
    have hp' : (fs.mapM fun f => do Pure.pure (f.offset, ← sizeOf f.type) : Sem (Array (Nat × Nat))).run P w' = .ok l.toArray w' := by
      rw [← Array.toArray_toList (xs := fs), List.mapM_toArray]
      simp only [Sem.run_map, hp]
      rfl
    simp only [execOp, ho, Instr.build, Sem.run_bind, zeroValue, typeInfo, run_underlying hu]
    simp [hi, hv, run_underlying hu] at hp' ⊢
    simp [hp', g1]
  | ar sz =>
    obtain ⟨m', e, i', hu, hi', rfl⟩ := bldTy_ar hb
    obtain ⟨vs', g1, g2, g3⟩ := fill_sound R (pl := fun j => some (j * i'.size, i'.size)) (b := .ar i'.size) (fun i => rfl) hcs hz0
    refine QS.of R hd (v := .agg vs') (x := .agg cs) (fun w' _ => ?_) ⟨vs', rfl, g3⟩ h2
    simp only [execOp, ho, Instr.build, Sem.run_bind, zeroValue, typeInfo, run_underlying hu]
    simp [hi, hv, run_underlying hu, sizeOf, typeInfo, hi', g1]
theorem quiet_sound {o : Oper} (hq : quietOp o.op = true) (hd : dOk n o.dst) (R : RelC W0 S F n L m s a w) (h : opE P H o.dst o.op s K) : QS (memFree o.op) P W0 S F n K o a w := by
  cases ho : o.op with
  | move x => rw [ho] at h; exact q_move (.inl ho) hd R h
  | assign x => rw [ho] at h; exact q_asg ho hd R h
  | pick c x y => rw [ho] at h; exact q_pick ho hd R h
  | binOp op t x y t' => rw [ho] at h; exact q_bin ho hd R h
  | unOp op t x => rw [ho] at h; exact q_un ho hd R h
  | convert s' d x =>
    rw [ho] at h hq
    have hq : (s' != d && s' != 9) = true := hq
    rw [Bool.and_eq_true] at hq
    exact q_convert ho hd R h (fun hc => by
      have e := (cvTy_same hc).1
      have hq := hq.1
      subst e
      simp at hq) (fun e hc => by
      have e := (cvTy_ofs hc).2.2.2
      have hq := hq.2
      rw [e] at hq
      simp at hq)
  | indexAddr T x i => rw [ho] at h; exact q_indexAddr ho hd R h
  | build T ps => rw [ho] at h; exact q_build ho hd R h
  | load T x => rw [ho] at h; exact q_load ho hd R h
  | fieldAddr S' x j => rw [ho] at h; exact q_fieldAddr rfl ho hd R h
  | field S' x j => rw [ho] at h; exact q_field ho hd R h
  | slice T x lo hi mx =>
    rw [ho] at h
    cases mx with
    | none => exact q_slice ho hd R h
    | some _ => exact False.elim h
  | nilCheck x => rw [ho] at h; exact q_nilCheck ho hd R h
  | extract x k => rw [ho] at h; exact q_extract ho hd R h
  | makeFunc f fst caps => rw [ho] at h; exact q_makeFunc ho hd R h
  | makeInterface T x => rw [ho] at h; exact q_makeInterface ho hd R h
  | lookup T x i c => rw [ho] at h; exact q_lookup ho hd R h
  | call c =>
    rw [ho] at hq h
    obtain ⟨callee, args, tys⟩ := c
    have h : callOp P H o.dst ⟨callee, args, tys⟩ s K := h
    unfold callOp at h
    split at h
    · rename_i e
      have e' : callee = _ := e
      subst e'
      simp [quietOp] at hq
    · rename_i e
      have e' : callee = _ := e
      subst e'
      simp [quietOp] at hq
    · rename_i e1 e2 e3
      have e1' : callee = _ := e1
      have e2' : args = _ := e2
      have e3' : tys = _ := e3
      subst e1'; subst e2'; subst e3'; exact q_len ho hd R h
    · rename_i e1 e2 e3
      have e1' : callee = _ := e1
      have e2' : args = _ := e2
      have e3' : tys = _ := e3
      subst e1'; subst e2'; subst e3'; exact q_cap ho hd R h
    · rename_i e1 e2 e3
      have e1' : callee = _ := e1
      subst e1'; simp [quietOp] at hq
    · rename_i e
      have e' : callee = _ := e
      subst e'
      simp [quietOp] at hq
    · rename_i e1 e2
      have e1' : callee = _ := e1
      have e2' : args = _ := e2
      subst e1'; subst e2'; exact q_min ho hd R h
    · exact h.elim
  | _ => rw [ho] at hq; simp [quietOp] at hq
end
end Go.Ev
