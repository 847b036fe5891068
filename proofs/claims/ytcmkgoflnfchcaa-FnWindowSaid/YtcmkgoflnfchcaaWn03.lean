/- Part 3 of what the row leans on: the evaluator, words, contracts of functions; pruned by a program of ours. -/
import Derived.Test.YtcmkgoflnfchcaaWn02
import Derived.WalkSpells
import Derived.Laws.Small
set_option linter.unusedVariables false
set_option linter.unusedSimpArgs false
namespace Go.Ev
open Go Go.RowKit
theorem onSome.elim {α : Type} {o : Option α} {k : α → Prop} (h : onSome o k) : ∃ a, o = some a ∧ k a := by
  cases o with
  | none => exact False.elim h
  | some a => exact ⟨a, rfl, h⟩
theorem bindO_eq {α β : Type} {o : Option α} {k : α → Option β} {b : β} (h : bindO o k = some b) : ∃ a, o = some a ∧ k a = some b := by
  cases o with
  | none => cases h
  | some a => exact ⟨a, rfl, h⟩
theorem sel_eq_some {α : Type} {t : Bool} {a b : α} (h : sel t (some a) none = some b) : t = true ∧ a = b := by
  cases t with
  | true => exact ⟨rfl, Option.some.inj h⟩
  | false => cases h
theorem onInt.elim {a : AV} {k : Int → Prop} (h : onInt a k) : ∃ q n, a = .v (.int q n) ∧ k n := by
  unfold onInt at h
  split at h
  · exact ⟨_, _, rfl, h⟩
  · exact False.elim h
theorem onGd.elim {a : AV} {k : Bool → Prop} {k' : Prop} (h : onGd a k k') : (∃ b, a = .v (.bool b) ∧ k b) ∨ (a = .tup [] ∧ k') := by
  unfold onGd at h
  split at h
  · exact .inl ⟨_, rfl, h⟩
  · exact .inr ⟨rfl, h⟩
  · exact h.elim
theorem onBool.elim {a : AV} {k : Bool → Prop} (h : onBool a k) : ∃ b, a = .v (.bool b) ∧ k b := by
  unfold onBool at h
  split at h
  · exact ⟨_, rfl, h⟩
  · exact False.elim h
theorem onAdr.elim {a : AV} {kr : Org → Nat → Nat → List (List AV) → Nat → Nat → Prop} {kp : Id → Nat → Nat → Nat → Prop} (h : onAdr a kr kp) :
    (∃ o e sz els i k, a = .rp o e sz els i k ∧ kr o e sz els i k) ∨ ∃ id sz i k, a = .ptr id sz i k ∧ kp id sz i k := by
  unfold onAdr at h
  split at h
  · exact .inl ⟨_, _, _, _, _, _, rfl, h⟩
  · exact .inr ⟨_, _, _, _, rfl, h⟩
  · exact False.elim h
theorem onOB.elim {o : Option OB} {kr : Nat → Nat → List (List AV) → Prop} {kb : Nat → List AV → Prop} (h : onOB o kr kb) :
    (∃ e sz els, o = some (.row e sz els) ∧ kr e sz els) ∨ ∃ t cs, o = some (.box t cs) ∧ kb t cs := by
  unfold onOB at h
  split at h
  · exact .inl ⟨_, _, _, rfl, h⟩
  · exact .inr ⟨_, _, rfl, h⟩
  · exact False.elim h
theorem onRef.elim {a : AV} {kref : Id → Prop} {kstr : ByteArray → Prop} {k : AV → Prop} (h : onRef a kref kstr k) :
    (∃ id, a = .ref id ∧ kref id) ∨ (∃ b, a = .v (.string b) ∧ kstr b) ∨ k a := by
  unfold onRef at h
  split at h
  · exact .inl ⟨_, rfl, h⟩
  · exact .inr (.inl ⟨_, rfl, h⟩)
  · exact .inr (.inr h)
def Shows (C : Cx) (o : Org) (sz : Nat) (els : List (List AV)) (x : Value) : Prop :=
  C.alive o ∧ ∃ A c, x = .slice A els.length c ∧ els.length ≤ c ∧ els.length ≤ BIG ∧ (els = [] ∨ ∃ b off, A = some ⟨b, off, none⟩ ∧ C.st o b ∧ RepEls C (.read o) b off 0 sz els)
theorem Stays.refl (C : Cx) : Stays C C := ⟨fun _ h => ⟨h, rfl⟩, fun _ h => ⟨h, rfl⟩⟩
section
variable {P : Program} {H : Nat → Nat} {W0 : Bs} {S F : Nat → Prop} {n : Nat} {L : Nat → Option Id} {m : Id → Value} {s : St} {a : Act} {w : World} {K : St → Prop}
theorem RelC.live {id : Id} {ob : OB} (h : s.σ id = some ob) : (cx w S F L m s.σ).live id := by show (s.σ id).isSome = true; rw [h]; rfl
theorem RelC.toRead {id : Id} (hl : (cx w S F L m s.σ).live id) : Tr (cx w S F L m s.σ) (cx w S F L m s.σ) (.own id) (.read (.obj id)) := ⟨hl, fun _ q h => ⟨⟨q, h⟩, rfl⟩⟩
theorem RelC.row (R : RelC W0 S F n L m s a w) {id : Id} {e sz : Nat} {els : List (List AV)} (h : s.σ id = some (.row e sz els)) : Shows (cx w S F L m s.σ) (.obj id) sz els (m id) :=
  Rep.tr (Stays.refl _) (RelC.toRead (RelC.live h)) (.row e sz els) _ (R.obj id _ h)
theorem RelC.sl (R : RelC W0 S F n L m s a w) {sz : Nat} {av : AV} {o : Org} {els : List (List AV)} {x : Value} (h : s.sl sz av = some (o, els)) (hr : Rep (cx w S F L m s.σ) false (.read .ent) av x) : Shows (cx w S F L m s.σ) o sz els x := by
  cases av with
  | rd o' e' sz' els' =>
    obtain ⟨h1, h2⟩ := sel_eq_some h
    cases h2
    obtain rfl : sz' = sz := by simpa using h1
    exact ⟨hr.2.1.1, hr.2.2⟩
  | ref id =>
    simp only [St.sl] at h
    unfold rowOf at h
    split at h
    · rename_i e' sz' els' hs
      obtain ⟨h1, h2⟩ := sel_eq_some h
      cases h2
      obtain rfl : sz' = sz := by simpa using h1
      rw [show x = m id from hr.2.2.2]
      exact R.row hs
    · cases h
  | v u =>
    simp only [St.sl] at h
    unfold nilV at h
    split at h
    · cases h
      rw [hr.1]
      exact ⟨trivial, none, 0, rfl, Nat.le_refl _, Nat.zero_le _, .inl rfl⟩
    · cases h
  | _ => cases h
theorem RepEls.at_ {C : Cx} {md : Md} {b sz : Nat} : ∀ {els : List (List AV)} {off q i : Nat} {cs : List AV}, RepEls C md b off q sz els → els[i]? = some cs → cs.length = sz ∧ RepCs C true md b (off + i * sz) (q + i * sz) cs
  | [], _, _, _, _, _, h => by simp at h
  | e :: es, off, q, 0, cs, h, hi => by
    obtain rfl : e = cs := by simpa using hi
    exact ⟨h.1, by simpa using h.2.1⟩
  | e :: es, off, q, i + 1, cs, h, hi => by
    have := RepEls.at_ (i := i) h.2.2 (by simpa using hi)
    rw [Nat.add_assoc, Nat.add_assoc, show sz + i * sz = (i + 1) * sz by rw [Nat.add_mul, Nat.one_mul, Nat.add_comm]] at this
    exact this
theorem RepCs.at_ {C : Cx} {cl : Bool} {md : Md} {b : Nat} : ∀ {cs : List AV} {off q k : Nat} {c : AV}, RepCs C cl md b off q cs → cs[k]? = some c → ∃ y, C.w.cell? ⟨b, off + k, none⟩ = some y ∧ one y ∧ Rep C cl (md.sub (q + k)) c y
  | [], _, _, _, _, _, h => by simp at h
  | e :: es, off, q, 0, c, h, hi => by
    obtain rfl : e = c := by simpa using hi
    exact h.1
  | e :: es, off, q, k + 1, c, h, hi => by
    have := RepCs.at_ (k := k) h.2 (by simpa using hi)
    rw [show off + 1 + k = off + (k + 1) by omega, show q + 1 + k = q + (k + 1) by omega] at this
    exact this
theorem RepCs.drop {C : Cx} {cl : Bool} {md : Md} {b : Nat} : ∀ (k : Nat) {cs : List AV} {off q : Nat}, RepCs C cl md b off q cs → RepCs C cl md b (off + k) (q + k) (cs.drop k)
  | 0, cs, _, _, h => by simpa using h
  | k + 1, [], _, _, _ => trivial
  | k + 1, c :: cs, off, q, h => by
    have := RepCs.drop k h.2
    rw [show off + (k + 1) = off + 1 + k by omega, show q + (k + 1) = q + 1 + k by omega]
    exact this
theorem RepCs.take {C : Cx} {cl : Bool} {md : Md} {b : Nat} : ∀ (k : Nat) {cs : List AV} {off q : Nat}, RepCs C cl md b off q cs → RepCs C cl md b off q (cs.take k)
  | 0, cs, _, _, _ => by rw [List.take_zero]; trivial
  | k + 1, [], _, _, _ => trivial
  | k + 1, c :: cs, off, q, h => ⟨h.1, RepCs.take k h.2⟩
theorem Org.base_alive {C : Cx} : ∀ {o : Org}, C.alive o → C.alive o.base
  | .ent, h => h
  | .frz, h => h
  | .obj _, h => h
  | .at _ _ _ _, h => h
theorem Org.base_st {C : Cx} : ∀ {o : Org} {b : Nat}, C.st o b → C.st o.base b
  | .ent, _, h => h
  | .frz, _, h => h
  | .obj _, _, h => h
  | .at _ _ _ _, _, h => h
theorem Org.base_hdr {C : Cx} {x : Value} : ∀ {o : Org}, C.hdr o.base x
  | .ent => trivial
  | .frz => trivial
  | .obj _ => trivial
  | .at _ _ _ _ => trivial
theorem Org.tr_base {C : Cx} (o : Org) : Tr C C (.read o) (.read o.base) := ⟨Org.base_alive, fun _ h => ⟨Org.base_st h, rfl⟩⟩
mutual
/-- A cell that is read, as a value of the frame's. -/
theorem rep_asrd {C : Cx} {o : Org} : ∀ {c : AV} {y : Value}, Rep C true (.read o) c y → Rep C false (.read .ent) (c.asrd o) y
  | .any, _, _ => trivial
  | .v u, _, h => h
  | .row e sz els, _, h => by
    have h' : Rep C true (.read o.base) (.row e sz els) _ := Rep.tr ⟨fun _ h => ⟨h, rfl⟩, fun _ h => ⟨h, rfl⟩⟩ (Org.tr_base o) _ _ h
    exact ⟨by simp, ⟨h'.1, Org.base_hdr⟩, h'.2⟩
  | .rd o' e sz els, _, h => ⟨by simp, h.2⟩
  | .rp .., _, h => absurd h.1 (by simp)
  | .ref .., _, h => absurd h.1 (by simp)
  | .ptr .., _, h => absurd h.1 (by simp)
  | .agg cs, _, h => by
    obtain ⟨vs, rfl, h⟩ := h
    exact ⟨vs, rfl, repVs_asrd h⟩
  | .tup cs, _, h => by
    obtain ⟨vs, rfl, h⟩ := h
    exact ⟨vs, rfl, repVs_asrd h⟩
  | .bx t cs, _, h => by
    obtain ⟨ha, g, off, rfl, h1, h2⟩ := h
    exact ⟨rfl, ha, g, off, by simp, h1, rfl, h2, trivial⟩
  | .ifc t a, _, h => by
    obtain ⟨v, rfl, h⟩ := h
    exact ⟨v, rfl, rep_asrd h⟩
  | .fn f cs, _, h => by
    obtain ⟨vs, rfl, h⟩ := h
    exact ⟨vs, rfl, repVs_asrd h⟩
theorem repVs_asrd {C : Cx} {o : Org} : ∀ {cs : List AV} {vs : List Value} {q q' : Nat}, RepVs C true (.read o) q cs vs → RepVs C false (.read .ent) q' (asrdL o cs) vs
  | [], _, _, _, h => h
  | c :: cs, _, _, q', h => by
    obtain ⟨y, ys, rfl, h1, h2⟩ := h
    exact ⟨y, ys, rfl, rep_asrd h1, repVs_asrd h2⟩
end
theorem RepCs.vals {C : Cx} {cl cl' : Bool} {md md' : Md} {b : Nat} {f : AV → AV} (hf : ∀ q c y, one y → Rep C cl (md.sub q) c y → Rep C cl' md' (f c) y) (hm : ∀ q, md'.sub q = md') : ∀ {cs : List AV} {off q q' : Nat}, RepCs C cl md b off q cs →
    ∃ vs : List Value, vs.length = cs.length ∧ (∀ j v, vs[j]? = some v → C.w.cell? ⟨b, off + j, none⟩ = some v ∧ one v) ∧ RepVs C cl' md' q' (cs.map f) vs
  | [], off, q, q', _ => ⟨[], rfl, fun j v h => by simp at h, rfl⟩
  | c :: cs, off, q, q', h => by
    obtain ⟨⟨y, h1, h2, h3⟩, h4⟩ := h
    obtain ⟨vs, g1, g2, g3⟩ := RepCs.vals hf hm (q' := q' + 1) h4
    refine ⟨y :: vs, by simp [g1], fun j v hj => ?_, y, vs, rfl, by rw [hm]; exact hf _ _ _ h2 h3, g3⟩
    cases j with
    | zero => obtain rfl : y = v := by simpa using hj
              exact ⟨h1, h2⟩
    | succ j => have := g2 j v (by simpa using hj)
                rwa [show off + (j + 1) = off + 1 + j by omega]
theorem tySz_run {T : TypeId} {k : Nat} {g : Bool} (h : tySz P T = some (k, g)) (w : World) : (isAgg T).run P w = .ok g w ∧ (sizeOf T).run P w = .ok k w ∧ (P.info? T).map (·.size) = some k := by
  unfold tySz at h
  split at h
  · rename_i i d hi hd
    simp only [Option.some.injEq, Prod.mk.injEq] at h
    obtain ⟨rfl, rfl⟩ := h
    refine ⟨?_, by simp [sizeOf, typeInfo, hi], by simp [hi]⟩
    simp only [isAgg, Sem.run_bind, run_underlying hd, Result.andThen_ok]
    cases d <;> rfl
  · cases h
theorem add_none (b o k : Nat) : (⟨b, o, none⟩ : Addr).add k = ⟨b, o + k, none⟩ := by unfold Addr.add; split <;> simp_all
theorem run_loadAt_agg {T : TypeId} {k : Nat} (h : tySz P T = some (k, true)) {w : World} {b o : Nat} {vs : List Value} (hl : vs.length = k) (hv : ∀ j v, vs[j]? = some v → w.cell? ⟨b, o + j, none⟩ = some v) :
    (Instr.loadAt T (.pointer (some ⟨b, o, none⟩))).run P w = .ok (.agg vs.toArray) w := by
  obtain ⟨h1, h2, _⟩ := tySz_run h w
  have h3 := run_loadCells_list (P := P) w ⟨b, o, none⟩ vs (fun j v hj => by rw [add_none]; exact hv j v hj)
  rw [hl] at h3
  simp [Instr.loadAt, Instr.sureAddr, loadVar, h1, h2, h3]
theorem run_loadAt_one {T : TypeId} {k : Nat} (h : tySz P T = some (k, false)) {w : World} {b o : Nat} {v : Value} (hv : w.cell? ⟨b, o, none⟩ = some v) :
    (Instr.loadAt T (.pointer (some ⟨b, o, none⟩))).run P w = .ok v w := by
  obtain ⟨h1, h2, _⟩ := tySz_run h w
  simp [Instr.loadAt, Instr.sureAddr, loadVar, h1, hv]
structure Grows (w w' : World) : Prop where
  size : w.heap.size ≤ w'.heap.size
  block : ∀ b, b < w.heap.size → w'.heap[b]? = w.heap[b]?
theorem Grows.refl (w : World) : Grows w w := ⟨Nat.le_refl _, fun _ _ => rfl⟩
theorem Grows.cell {w w' : World} (h : Grows w w') {b o : Nat} {v : Value} (hc : w.cell? ⟨b, o, none⟩ = some v) : w'.cell? ⟨b, o, none⟩ = some v := by
  have hb : b < w.heap.size := by
    unfold World.cell? at hc
    cases he : w.heap[b]? with
    | none => rw [he] at hc; cases hc
    | some x => exact (Array.getElem?_eq_some_iff.1 he).1
  rw [cell_same (h.block b hb) o]; exact hc
theorem run_load_cut {T : TypeId} {k : Nat} {g : Bool} (h : tySz P T = some (k, g)) {C : Cx} {cl cl' : Bool} {md : Md} {b off q j : Nat} {cs : List AV} (hc : RepCs C cl md b off q cs) {f : AV → AV} {x : AV} (hx : cut g k j cs f = some x)
    (hf1 : g = false → ∀ c y, C.w.cell? ⟨b, off + j, none⟩ = some y → Rep C cl (md.sub (q + j)) c y → Rep C cl' (.read .ent) (f c) y) (hf : g = true → ∀ q c y, Rep C cl (md.sub q) c y → Rep C cl' (.read .ent) (f c) y) : ∃ v, (∀ w', Grows C.w w' → (Instr.loadAt T (.pointer (some ⟨b, off + j, none⟩))).run P w' = .ok v w') ∧ Rep C cl' (.read .ent) x v := by
  unfold cut at hx
  cases g with
  | true =>
    obtain ⟨h1, rfl⟩ := sel_eq_some (show sel (Nat.ble (j + k) cs.length) _ none = some x from hx)
    have hlen : j + k ≤ cs.length := Nat.le_of_ble_eq_true h1
    obtain ⟨vs, g1, g2, g3⟩ := RepCs.vals (q' := 0) (fun q c y _ => hf rfl q c y) (fun _ => rfl) ((hc.drop j).take k)
    refine ⟨.agg vs.toArray, fun w' hw' => run_loadAt_agg h (by rw [g1, List.length_take, List.length_drop]; omega) (fun i v hi => hw'.cell (g2 i v hi).1), vs.toArray, rfl, by simpa using g3⟩
  | false =>
    obtain ⟨c, hc', rfl⟩ := Option.map_eq_some_iff.1 (show (cs[j]?).map f = some x from hx)
    obtain ⟨y, h1, h2, h3⟩ := hc.at_ hc'
    exact ⟨y, fun w' hw' => run_loadAt_one h (hw'.cell h1), hf1 rfl _ _ h1 h3⟩
def Gr (mf : Bool) (w w' : World) : Prop := mf = true ∨ Grows w w'
def QS (mf : Bool) (P : Program) (W0 : Bs) (S F : Nat → Prop) (n : Nat) (K : St → Prop) (o : Oper) (a : Act) (w : World) : Prop :=
  ∃ v s', (∀ w', Gr mf w w' → (execOp a.eval o).run P w' = .ok (.value v) w') ∧ Rel W0 S F n s' (a.put o.dst v) w ∧ K s'
theorem QS.of {mf : Bool} {o : Oper} (R : RelC W0 S F n L m s a w) (hd : dOk n o.dst) {v : Value} (hr : ∀ w', Gr mf w w' → (execOp a.eval o).run P w' = .ok (.value v) w') {x : AV} (hx : Rep (cx w S F L m s.σ) false (.read .ent) x v) (hk : K (s.put o.dst x)) : QS mf P W0 S F n K o a w :=
  ⟨v, _, hr, ⟨L, m, R.put hd hx⟩, hk⟩
theorem q_load0 {o : Oper} {T : TypeId} {x : Operand} (ho : o.op = .load T x) (hd : dOk n o.dst) (R : RelC W0 S F n L m s a w) (h : loadOp P T x s fun y => K (s.put o.dst y)) : QS false P W0 S F n K o a w := by
  have hx := R.ev x
  obtain ⟨⟨k, g⟩, ht, h1⟩ := onSome.elim (show onSome _ _ from h)
  clear h
  have h := onAdr.elim h1
  clear h1
  rcases h with ⟨r, e, sz, els, i, j, hv, h⟩ | ⟨id, sz, i, j, hv, h⟩
  · rw [hv] at hx
    obtain ⟨cs, hcs, h⟩ := onSome.elim h
    obtain ⟨y, hy, h⟩ := onSome.elim h
    obtain ⟨_, ha, b, off, he, hb, hE⟩ := hx
    obtain ⟨_, hC⟩ := hE.at_ hcs
    obtain ⟨v, hrun, hrep⟩ := run_load_cut (P := P) ht hC (cl' := false) hy (fun _ c y _ h2 => rep_asrd h2) (fun _ q c y h2 => rep_asrd h2)
    refine QS.of R hd (v := v) (fun w' hw' => ?_) hrep h
    simp only [execOp, ho, he, Sem.run_bind]
    rw [hrun w' (hw'.resolve_left (by simp))]; rfl
  · rw [hv] at hx
    obtain ⟨_, hl, g', off, hg, he⟩ := hx
    replace h := onOB.elim h
    rcases h with ⟨e', sz', els, hs, h⟩ | ⟨t, cs, hs, h⟩
    · obtain ⟨rfl, h⟩ := h
      obtain ⟨cs, hcs, h⟩ := onSome.elim h
      obtain ⟨y, hy, h⟩ := onSome.elim h
      obtain ⟨_, A, c, hm, _, _, hE⟩ := R.row hs
      rw [show (cx w S F L m s.σ).m id = m id from rfl, hm] at hg
      rcases hE with rfl | ⟨b, off', rfl, hb, hE⟩
      · simp at hcs
      · simp only [hdrAddr, Option.some.injEq, Addr.mk.injEq] at hg
        obtain ⟨rfl, rfl, _⟩ := hg
        obtain ⟨_, hC⟩ := hE.at_ hcs
        have hm0 : m id = .slice (some ⟨b, off', none⟩) els.length c := hm
        have hLb : L b = some id := by
          obtain ⟨A', c', hm', hown⟩ := R.obj id _ hs
          rw [show (cx w S F L m s.σ).m id = m id from rfl, hm0] at hm'
          injection hm' with e1 _ _
          subst e1
          rcases hown with ⟨hh, _⟩ | ⟨g', off', arr, fr, q, h1, h2, _⟩
          · rw [hh] at hcs; simp at hcs
          · injection h1 with h1; injection h1 with h1; subst h1; exact h2
        obtain ⟨v, hrun, hrep⟩ := run_load_cut (P := P) ht hC (cl' := false) hy (fun hg c' y' hcell h2 => by
          rw [hg]
          show Rep _ false _ (AV.asat id sz' i j c') y'
          cases c' with
          | row e1 sz1 els1 =>
            have h3 : Rep (cx w S F L m s.σ) true (.read (.at id sz' i j)) (.row e1 sz1 els1) y' := Rep.tr (Stays.refl _) (show Tr _ _ (.read (.obj id)) (.read (.at id _ _ _)) from ⟨fun h => h, fun _ h => ⟨h, rfl⟩⟩) _ _ h2
            exact ⟨by simp, ⟨RelC.live hs, b, off', by rw [show (cx w S F L m s.σ).m id = m id from rfl, hm0]; rfl, hLb, by rw [← Nat.add_assoc]; exact hcell⟩, h3.2⟩
          | _ => exact rep_asrd h2) (fun hg q' c' y' h2 => by rw [hg]; exact rep_asrd h2)
        refine QS.of R hd (v := v) (fun w' hw' => ?_) hrep h
        simp only [execOp, ho, he, Sem.run_bind]
        rw [hrun w' (hw'.resolve_left (by simp))]; rfl
    · obtain ⟨rfl, h⟩ := h
      obtain ⟨y, hy, h⟩ := onSome.elim h
      obtain ⟨g2, arr, h1, h2, h3, h4, h5⟩ := R.obj id _ hs
      rw [show (cx w S F L m s.σ).m id = m id from rfl] at h1 hg
      rw [h1] at hg
      simp only [hdrAddr, Option.some.injEq, Addr.mk.injEq] at hg
      obtain ⟨rfl, rfl, _⟩ := hg
      obtain ⟨v, hrun, hrep⟩ := run_load_cut (P := P) ht h5 (cl' := false) hy (fun _ c y _ h2 => h2) (fun _ q c y h2 => h2)
      refine QS.of R hd (v := v) (fun w' hw' => ?_) hrep h
      simp only [execOp, ho, he, Sem.run_bind]
      simp only [Nat.zero_mul, Nat.add_zero]
      rw [hrun w' (hw'.resolve_left (by simp))]; rfl
theorem q_move {mf : Bool} {o : Oper} {x : Operand} (ho : o.op = .move x ∨ o.op = .assign x) (hd : dOk n o.dst) (R : RelC W0 S F n L m s a w) (h : K (s.put o.dst (s.ev x))) : QS mf P W0 S F n K o a w :=
  QS.of R hd (v := a.eval x) (fun w' _ => by rcases ho with ho | ho <;> simp [execOp, ho]) (R.ev x) h
theorem RelC.nilRow (R : RelC W0 S F n L m s a w) (id : Id) (e sz : Nat) : RelC W0 S F n L (fun y => if y = id then .slice none 0 0 else m y) ((s.chg [id] [id]).obj id (.row e sz [])) a w := by
  have kp : Keep (cx w S F L m s.σ) (cx w S F L (fun y => if y = id then .slice none 0 0 else m y) (updS (killS s.σ [id] [id]) id (.row e sz []))) [id] [id] := by
    refine ⟨⟨fun _ h => ⟨h, rfl⟩, fun _ h => ⟨h, rfl⟩⟩, fun _ h => h, fun y hy hl => ?_, fun y hy hl b q hb => ⟨hb, rfl⟩⟩
    have hne : y ≠ id := fun e => by subst e; rw [hit_self (by simp)] at hy; cases hy
    refine ⟨?_, if_neg hne⟩
    show (updS _ _ _ y).isSome = true
    have e1 : (y == id) = false := by simpa using hne
    unfold updS
    rw [e1]
    exact killS_isSome.2 ⟨hy, hl⟩
  exact R.upd1 (by simp) kp ⟨none, 0, if_pos rfl, .inl ⟨rfl, rfl, rfl⟩⟩ R.lab R.below
theorem q_asg {mf : Bool} {o : Oper} {x : Operand} (ho : o.op = .assign x) (hd : dOk n o.dst) (R : RelC W0 S F n L m s a w) (h : opE P H o.dst (.assign x) s K) : QS mf P W0 S F n K o a w := by
  have h : asgE P H o.dst x s K := h
  unfold asgE at h
  split at h
  · rename_i d hdst _
    cases hb : H d == 0 with
    | true =>
      rw [hb] at h
      exact q_move (.inr ho) hd R (by rw [hdst]; exact h)
    | false =>
      rw [hb] at h
      obtain ⟨t, _, h⟩ := onSome.elim h
      have R' := R.nilRow [d] t.1 t.2.1
      have e1 : ((s.chg [[d]] [[d]]).obj [d] (.row t.1 t.2.1 [])).σ [d] = some (.row t.1 t.2.1 []) := by show updS _ _ _ _ = _; simp [updS, sel]
      refine ⟨.slice none 0 0, _, fun w' _ => by simp [execOp, ho, Act.eval], ⟨_, _, R'.put hd (x := .ref [d]) ⟨rfl, trivial, RelC.live e1, (if_pos rfl).symm⟩⟩, ?_⟩
      rw [hdst]; exact h
  · exact q_move (.inr ho) hd R h
theorem q_pick {mf : Bool} {o : Oper} {c x y : Operand} (ho : o.op = .pick c x y) (hd : dOk n o.dst) (R : RelC W0 S F n L m s a w) (h : opE P H o.dst (.pick c x y) s K) : QS mf P W0 S F n K o a w := by
  obtain ⟨t, ht, h1⟩ := onBool.elim (show onBool _ _ from h)
  have hc := R.ev c
  rw [ht] at hc
  have hc : a.eval c = .bool t := hc.1
  cases t with
  | true => exact QS.of R hd (v := a.eval x) (fun w' _ => by simp [execOp, ho, hc, asBool]) (R.ev x) (h1.1 rfl)
  | false => exact QS.of R hd (v := a.eval y) (fun w' _ => by simp [execOp, ho, hc, asBool]) (R.ev y) (h1.2 rfl)
theorem bEq_str (a b : ByteArray) : (a.toList == b.toList) = decide (a = b) := by
  rw [Bool.eq_iff_iff]
  simp only [beq_iff_eq, decide_eq_true_eq]
  constructor
  · intro h
    have h1 : a.data.toList = b.data.toList := by simpa [ByteArray.toList_eq] using h
    cases a; cases b
    simp only [Array.toList_inj] at h1
    rw [h1]
  · rintro rfl; rfl
theorem eqGuard_int (op : BinOp) (t : TypeId) (x y : Operand) (k : IntKind) (n : Int) (v : Value) (w : World) : (eqGuard op t x y (.int k n) v).run P w = .ok () w := by cases op <;> rfl
theorem eqGuard_str (op : BinOp) (t : TypeId) (x y : Operand) (b : ByteArray) (v : Value) (w : World) : (eqGuard op t x y (.string b) v).run P w = .ok () w := by cases op <;> rfl
theorem intE_run {op : BinOp} {t : TypeId} {k k' : IntKind} {x y : Int} {K' : Value → Prop} (h : intE op k x k' y K') : ∃ u, (∀ w, (binOp op t (.int k x) (.int k' y)).run P w = .ok u w) ∧ one u ∧ K' u := by
  cases op
  all_goals simp only [intE] at h
  all_goals first
    | (obtain ⟨rfl, h1, h2⟩ := h
       refine ⟨_, ?_, ?_, h2⟩
       · intro w; simp only [binOp, ne_eq, not_true_eq_false, if_false, Op.intDiv, if_neg h1]; rfl
       · trivial)
    | (obtain ⟨rfl, h2⟩ := h
       refine ⟨_, ?_, ?_, h2⟩
       · intro w; simp only [binOp, ne_eq, not_true_eq_false, if_false]; rfl
       · trivial)
    | (obtain ⟨h1, h2⟩ := h
       refine ⟨_, ?_, ?_, h2⟩
       · intro w; simp only [binOp, Op.shift, if_neg (Int.not_lt.2 h1)]; rfl
       · trivial)
theorem q_binE {mf : Bool} {o : Oper} {op : BinOp} {t t' : TypeId} {x y : Operand} (ho : o.op = .binOp op t x y t') (hd : dOk n o.dst) (R : RelC W0 S F n L m s a w) (h : binE op (s.ev x) (s.ev y) (fun u => K (s.put o.dst (.v u)))) : QS mf P W0 S F n K o a w := by
  have hx := R.ev x
  have hy := R.ev y
  unfold binE at h
  split at h
  · rename_i e1 e2
    rw [e1] at hx
    rw [e2] at hy
    obtain ⟨u, h1, h2, h3⟩ := intE_run (P := P) (t := t) h
    refine QS.of R hd (v := u) (fun w' _ => ?_) (rep_v h2) h3
    replace h1 := h1 w'
    rw [← hx.1, ← hy.1] at h1
    simp only [execOp, ho, Sem.run_bind]
    rw [hx.1, hy.1] at h1 ⊢
    simp [eqGuard_int, h1]
  · rename_i a' b' e1 e2
    rw [e1] at hx
    rw [e2] at hy
    have key : ∀ u : Value, (∀ w, (binOp op t (.string a') (.string b')).run P w = .ok u w) → one u → K (s.put o.dst (.v u)) → QS mf P W0 S F n K o a w := fun u h1 h2 h3 => by
      refine QS.of R hd (v := u) (fun w' _ => ?_) (rep_v h2) h3
      simp only [execOp, ho, Sem.run_bind, hx.1, hy.1]
      simp [eqGuard_str, h1]
    cases op <;> simp only [strE] at h
    · exact key (.bool (decide (a' = b'))) (fun w => by simp [binOp, Op.stringOp, bEq_str]) trivial h
    · exact key (.bool (!decide (a' = b'))) (fun w => by simp [binOp, Op.stringOp, bEq_str]) trivial h
  · exact h.elim
theorem boolTy_run {T : TypeId} {x : Unit} (h : boolTy P T = some x) : P.underlying T = some .bool := by
  unfold boolTy at h
  split at h
  · assumption
  · cases h
theorem elTy_und {T : TypeId} {x : Nat × Nat × Nat} (h : elTy P T = some x) : ∃ e, P.underlying T = some (.slice e) := by
  unfold elTy at h
  split at h
  · exact ⟨_, by assumption⟩
  · cases h
theorem run_eqG {op : BinOp} {t : TypeId} {x y : Operand} {u v : Value} (hu : one u) (hn : u ≠ .nilIface) (w : World) : (eqGuard op t x y u v).run P w = .ok () w := by
  cases op <;> cases u <;> first | rfl | exact absurd rfl hn | exact hu.elim
theorem q_op {mf : Bool} {o : Oper} {op : BinOp} {t t' : TypeId} {x y : Operand} (ho : o.op = .binOp op t x y t') (hd : dOk n o.dst) (R : RelC W0 S F n L m s a w) (hu : one (a.eval x)) (hn : a.eval x ≠ .nilIface) {v : Value} (hv : one v) (hrun : ∀ w, (binOp op t (a.eval x) (a.eval y)).run P w = .ok v w) (h : K (s.put o.dst (.v v))) : QS mf P W0 S F n K o a w := by
  refine QS.of R hd (v := v) (fun w' _ => ?_) (rep_v hv) h
  simp only [execOp, ho, Sem.run_bind, run_eqG hu hn, Result.andThen_ok, hrun]
  rfl
theorem q_nil {mf : Bool} {o : Oper} {op : BinOp} {t t' : TypeId} {x y : Operand} (ho : o.op = .binOp op t x y t') (hd : dOk n o.dst) (R : RelC W0 S F n L m s a w) {e : Nat} (ht : P.underlying t = some (.slice e)) {A : Option Addr} {ln c : Nat} (hx : a.eval x = .slice A ln c) (hy : a.eval y = .slice none 0 0) {els : List (List AV)} (hA : A = none → els = [])
    (h : nilCmp op els (fun u => K (s.put o.dst (.v u)))) : QS mf P W0 S F n K o a w := by
  have hu : one (a.eval x) := by rw [hx]; trivial
  have hn : a.eval x ≠ .nilIface := by rw [hx]; simp
  cases op <;> simp only [nilCmp] at h
  · refine q_op ho hd R hu hn (v := .bool A.isNone) trivial (fun w => by rw [hx, hy]; exact Lib.run_eql_slice_nil w t e A ln c 0 0 ht) ?_
    cases A with
    | none => exact h.1 (hA rfl)
    | some A => exact h.2
  · refine q_op ho hd R hu hn (v := .bool (!A.isNone)) trivial (fun w => by rw [hx, hy]; exact run_neq_slice_nil_any w t e A ln c 0 0 ht) ?_
    cases A with
    | none => exact h.1 (hA rfl)
    | some A => exact h.2
theorem run_neq_bool {T : TypeId} (b1 b2 : Bool) (ht : P.underlying T = some .bool) (w : World) : (binOp .neq T (.bool b1) (.bool b2)).run P w = .ok (.bool (!decide (b1 = b2))) w := by
  have h1 := run_equal_bool (P := P) w T b1 b2 ht
  have e : binOp .neq T (.bool b1) (.bool b2) = (do Pure.pure (.bool (!(← Op.equal T (.bool b1) (.bool b2))))) := rfl
  rw [e]
  simp only [Sem.run_bind, h1]
  cases b1 <;> cases b2 <;> rfl
theorem q_bin {mf : Bool} {o : Oper} {op : BinOp} {t t' : TypeId} {x y : Operand} (ho : o.op = .binOp op t x y t') (hd : dOk n o.dst) (R : RelC W0 S F n L m s a w) (h : opE P H o.dst (.binOp op t x y t') s K) : QS mf P W0 S F n K o a w := by
  have hx := R.ev x
  have hy := R.ev y
  have h : binT P t s.σ op (s.ev x) (s.ev y) (fun u => K (s.put o.dst (.v u))) := h
  unfold binT at h
  split at h
  · rename_i b1 b2 e1 e2
    rw [e1] at hx
    rw [e2] at hy
    obtain ⟨_, ht, h⟩ := onSome.elim h
    have ht := boolTy_run ht
    have hu : one (a.eval x) := by rw [hx.1]; trivial
    have hn : a.eval x ≠ .nilIface := by rw [hx.1]; simp
    cases op <;> simp only [boolE] at h
    · exact q_op ho hd R hu hn (v := .bool (decide (b1 = b2))) trivial (fun w => by
        rw [hx.1, hy.1, run_eql_bool w t b1 b2 ht]
        cases b1 <;> cases b2 <;> rfl) h
    · exact q_op ho hd R hu hn (v := .bool (!decide (b1 = b2))) trivial (fun w => by rw [hx.1, hy.1]; exact run_neq_bool b1 b2 ht w) h
  · rename_i o' e' sz' els e1 e2
    rw [e1] at hx
    rw [e2] at hy
    obtain ⟨_, ht, h⟩ := onSome.elim h
    obtain ⟨e, ht⟩ := elTy_und ht
    obtain ⟨_, _, A, c, hxe, _, _, hA⟩ := hx
    exact q_nil ho hd R ht hxe hy.1 (fun hn => by
      rcases hA with hA | ⟨b, off, hA, _⟩
      · exact hA
      · rw [hn] at hA; cases hA) h
  · rename_i id e1 e2
    rw [e1] at hx
    rw [e2] at hy
    obtain ⟨_, ht, h⟩ := onSome.elim h
    obtain ⟨e, ht⟩ := elTy_und ht
    rcases onOB.elim h with ⟨e', sz', els, hs, h⟩ | ⟨_, _, _, h⟩
    · obtain ⟨A, c, hm, hA⟩ := R.obj id _ hs
      have hxe : a.eval x = .slice A els.length c := hx.2.2.2.trans hm
      exact q_nil ho hd R ht hxe hy.1 (fun hn => by
        rcases hA with hA | ⟨g, off, arr, fr, q, hA, _⟩
        · exact hA.1
        · rw [hn] at hA; cases hA) h
    · exact h.elim
  · rename_i e1 e2
    rw [e1] at hx
    rw [e2] at hy
    obtain ⟨_, ht, h⟩ := onSome.elim h
    obtain ⟨e, ht⟩ := elTy_und ht
    have hu : one (a.eval x) := by rw [hx.1]; trivial
    have hn : a.eval x ≠ .nilIface := by rw [hx.1]; simp
    cases op <;> simp only [nil0] at h
    · exact q_op ho hd R hu hn (v := .bool true) trivial (fun w => by rw [hx.1, hy.1]; exact Lib.run_eql_slice_nil w t e none 0 0 0 0 ht) h
    · exact q_op ho hd R hu hn (v := .bool false) trivial (fun w => by rw [hx.1, hy.1]; exact run_neq_slice_nil_any w t e none 0 0 0 0 ht) h
  · exact q_binE ho hd R h
theorem q_un {mf : Bool} {o : Oper} {op : UnOp} {t : TypeId} {x : Operand} (ho : o.op = .unOp op t x) (hd : dOk n o.dst) (R : RelC W0 S F n L m s a w) (h : opE P H o.dst (.unOp op t x) s K) : QS mf P W0 S F n K o a w := by
  have hx := R.ev x
  have h1 : unE op (s.ev x) (fun u => K (s.put o.dst (.v u))) := h
  clear h
  generalize s.ev x = av at h1 hx
  unfold unE at h1
  split at h1
  · rename_i b
    exact QS.of (v := .bool (!b)) R hd (fun w' _ => by simp [execOp, ho, hx.1, Op.unary]) (rep_v trivial) h1
  · rename_i k y
    exact QS.of (v := .int k (k.wrap (0 - y))) R hd (fun w' _ => by simp [execOp, ho, hx.1, Op.unary, Op.intArith]) (rep_v trivial) h1
  · rename_i k y
    exact QS.of (v := .int k (k.wrap (BitVec.ofInt k.bits (if k.signed then -1 else k.max) ^^^ BitVec.ofInt k.bits y).toNat)) R hd (fun w' _ => by simp only [execOp, ho, hx.1, Op.unary, Op.intBits]; rfl) (rep_v trivial) h1
  · exact h1.elim
theorem run_nilAhead {t : TypeId} {nm : String} {f : Nat} (h : methF P t nm = some f) (k : Nat) (v : Value) (w : World) : (nilAhead (k + 1) t v nm).run P w = .ok (some false) w := by
  unfold methF at h
  split at h
  · rename_i i d hi hd
    split at h
    · cases h
    · rename_i d' nm' sg f' hm hnp
      obtain ⟨d, hd, hnp⟩ : ∃ d, P.underlying t = some d ∧ ∀ e, d ≠ .pointer e := ⟨_, hd, hnp⟩
      cases d <;> first | exact (hnp _ rfl).elim | simp [nilAhead, typeInfo, hi, hm, followBlind, run_underlying hd]
    · cases h
  · cases h
theorem q_nilCheck {mf : Bool} {o : Oper} {x : Operand} (ho : o.op = .nilCheck x) (hd : dOk n o.dst) (R : RelC W0 S F n L m s a w) (h : opE P H o.dst (.nilCheck x) s K) : QS mf P W0 S F n K o a w := by
  have hx := R.ev x
  rcases onMth.elim (show onMth _ _ _ from h) with ⟨nm, t, v, hv, h0⟩ | h
  · obtain ⟨f, hf, h1⟩ := onSome.elim h0
    have hx0 := hx
    rw [hv] at hx
    refine QS.of R hd (v := a.eval x) (fun w' _ => ?_) hx0 h1
    have hk := run_nilAhead hf (P.types.size + 99) v w'
    have hk : (nilAhead (P.types.size + Made.depth) t v nm).run P w' = .ok (some false) w' := hk
    simp [execOp, ho, hx.1, hk]
  rcases onAdr.elim (show onAdr _ _ _ from h) with ⟨r, e, sz, els, i, j, hv, h1⟩ | ⟨id, sz, i, j, hv, h1⟩
  · rw [hv] at hx
    have hx' := hx
    obtain ⟨_, _, b, off, he, _⟩ := hx'
    exact QS.of R hd (v := a.eval x) (fun w' _ => by simp [execOp, ho, he]) hx h1
  · rw [hv] at hx
    have hx' := hx
    obtain ⟨_, _, b, off, _, he⟩ := hx'
    exact QS.of R hd (v := a.eval x) (fun w' _ => by simp [execOp, ho, he]) hx h1
theorem RepVs.at_ {C : Cx} {cl : Bool} {md : Md} : ∀ {cs : List AV} {vs : List Value} {q k : Nat} {c : AV}, RepVs C cl md q cs vs → cs[k]? = some c → ∃ v, vs[k]? = some v ∧ Rep C cl (md.sub (q + k)) c v
  | [], _, _, _, _, _, h => by simp at h
  | e :: es, vs, q, 0, c, h, hi => by
    obtain rfl : e = c := by simpa using hi
    obtain ⟨y, ys, rfl, h1, _⟩ := h
    exact ⟨y, by simp, h1⟩
  | e :: es, vs, q, k + 1, c, h, hi => by
    obtain ⟨y, ys, rfl, _, h2⟩ := h
    obtain ⟨v, g1, g2⟩ := RepVs.at_ (k := k) h2 (by simpa using hi)
    exact ⟨v, by simpa using g1, by rwa [show q + 1 + k = q + (k + 1) by omega] at g2⟩
theorem onTup.elim {a : AV} {k : List AV → Prop} (h : onTup a k) : ∃ cs, a = .tup cs ∧ k cs := by
  unfold onTup at h
  split at h
  · exact ⟨_, rfl, h⟩
  · exact False.elim h
theorem onFn.elim {a : AV} {k : Nat → List AV → Prop} (h : onFn a k) : ∃ f cs, k f cs ∧ ∀ {C : Cx} {y : Value}, Rep C false (.read .ent) a y → ∃ vs, y = .func (.func f) #[] vs ∧ RepVs C false (.read .ent) 0 cs vs.toList := by
  unfold onFn at h
  split at h
  · exact ⟨_, _, h, fun h => h⟩
  · exact ⟨_, _, h, fun h => ⟨#[], h.1, rfl⟩⟩
  · exact False.elim h
theorem reps_map (R : RelC W0 S F n L m s a w) : ∀ (xs : List Operand) (q : Nat), RepVs (cx w S F L m s.σ) false (.read .ent) q (xs.map s.ev) (xs.map a.eval)
  | [], _ => rfl
  | x :: xs, q => ⟨a.eval x, xs.map a.eval, rfl, R.ev x, reps_map R xs _⟩
theorem q_makeFunc {mf : Bool} {o : Oper} {f : Fn} {fst caps : Array Operand} (ho : o.op = .makeFunc f fst caps) (hd : dOk n o.dst) (R : RelC W0 S F n L m s a w) (h : opE P H o.dst (.makeFunc f fst caps) s K) : QS mf P W0 S F n K o a w := by
  unfold opE at h
  split at h
  any_goals (rename_i e; cases e)
  · rename_i f
    exact QS.of R hd (x := .fn f (caps.toList.map s.ev)) (v := .func (.func f) #[] (caps.map a.eval)) (fun w' _ => by simp [execOp, ho, Instr.makeFunc]) ⟨caps.map a.eval, rfl, by simpa using reps_map R caps.toList 0⟩ h
  · rename_i nm x
    have hx := R.ev x
    obtain ⟨t, y, hv, h1⟩ := onIfc.elim h
    rw [hv] at hx
    obtain ⟨v, he, _⟩ := hx
    exact QS.of R hd (v := .func (.method nm) #[.iface t v] #[]) (fun w' _ => by simp [execOp, ho, Instr.makeFunc, he]) (rep_v trivial) (h1 v)
  · exact h.elim
theorem q_makeInterface {mf : Bool} {o : Oper} {T : TypeId} {x : Operand} (ho : o.op = .makeInterface T x) (hd : dOk n o.dst) (R : RelC W0 S F n L m s a w) (h : opE P H o.dst (.makeInterface T x) s K) : QS mf P W0 S F n K o a w := by
  obtain ⟨_, ht, h1⟩ := onSome.elim (show onSome _ _ from h)
  refine QS.of R hd (x := .ifc T (s.ev x)) (v := .iface T (a.eval x)) (fun w' _ => ?_) ⟨a.eval x, rfl, R.ev x⟩ h1
  unfold ifcTy at ht
  split at ht
  · cases ht
  · rename_i d hne hd'
    cases d <;> first | exact (hne _ rfl).elim | simp [execOp, ho, Instr.makeInterface, run_underlying hd']
  · cases ht
theorem onAgg.elim {a : AV} {k : List AV → Prop} (h : onAgg a k) : ∃ cs, a = .agg cs ∧ k cs := by
  unfold onAgg at h
  split at h
  · exact ⟨_, rfl, h⟩
  · exact False.elim h
theorem q_extract {mf : Bool} {o : Oper} {x : Operand} {k : Nat} (ho : o.op = .extract x k) (hd : dOk n o.dst) (R : RelC W0 S F n L m s a w) (h : opE P H o.dst (.extract x k) s K) : QS mf P W0 S F n K o a w := by
  have hx := R.ev x
  obtain ⟨cs, hv, h1⟩ := onTup.elim (show onTup _ _ from h)
  obtain ⟨c, hc, h2⟩ := onSome.elim h1
  rw [hv] at hx
  obtain ⟨vs, he, hr⟩ := hx
  obtain ⟨v, g1, g2⟩ := hr.at_ hc
  refine QS.of R hd (v := v) (fun w' _ => ?_) g2 h2
  have g1' : vs[k]? = some v := by simpa using g1
  simp [execOp, ho, he, Instr.extract, g1']
theorem fldTy_run {T : TypeId} {j off k : Nat} {g : Bool} (h : fldTy P T j = some (off, k, g)) : ∃ fs f, P.underlying T = some (.struct fs) ∧ fs[j]? = some f ∧ f.offset = off ∧ tySz P f.type = some (k, g) := by
  unfold fldTy at h
  split at h
  · rename_i fs hu
    split at h
    · rename_i f hf
      obtain ⟨⟨k', g'⟩, h1, h2⟩ := Option.map_eq_some_iff.1 h
      simp only [Prod.mk.injEq] at h2
      obtain ⟨rfl, rfl, rfl⟩ := h2
      exact ⟨fs, f, hu, hf, rfl, h1⟩
    · cases h
  · cases h
theorem zeroFld_run {T : TypeId} {j : Nat} (h : zeroFld P T j = some ()) : ∃ fs f, P.underlying T = some (.struct fs) ∧ fs[j]? = some f ∧ (f.offset = 0 ∧ f.byteOffset = 0) ∧ tySz P f.type = some (0, true) ∧ P.cellsOf T = 0 := by
  unfold zeroFld at h
  split at h
  · rename_i fs hu
    split at h
    · rename_i f hf
      split at h
      · rename_i h1
        exact ⟨fs, f, hu, hf, ⟨h1.1, h1.2.1⟩, h1.2.2.1, h1.2.2.2⟩
      · cases h
    · cases h
  · cases h
theorem q_fieldZ {o : Oper} {T : TypeId} {x : Operand} {j : Nat} (ho : o.op = .fieldAddr T x j) (hd : dOk n o.dst) (R : RelC W0 S F n L m s a w) (h : onSome (zeroFld P T j) fun _ => onAdr (s.ev x) (fun _ _ _ _ _ _ => False) (fun id _ i k => onOB (s.σ id) (fun _ _ _ => False) (fun t cs => ask (i = 0 ∧ k = 0 ∧ t = T ∧ cs.length = 0) (K (s.put o.dst (.ptr id 0 0 0)))))) : QS false P W0 S F n K o a w := by
  obtain ⟨u, hz, h1⟩ := onSome.elim h
  obtain ⟨fs, f, hu, hj, hf, htz, hc⟩ := zeroFld_run hz
  rcases onAdr.elim h1 with ⟨_, _, _, _, _, _, _, h2⟩ | ⟨id, sz, i, k, hv, h2⟩
  · exact h2.elim
  rcases onOB.elim h2 with ⟨_, _, _, _, h3⟩ | ⟨t, cs, hs, h3⟩
  · exact h3.elim
  obtain ⟨⟨rfl, rfl, rfl, hcs⟩, hK⟩ := h3
  have hev := R.ev x
  rw [hv] at hev
  obtain ⟨_, hl, g, off, hm, he⟩ := hev
  obtain ⟨g', arr, h1, h2, h3, h4, _⟩ := R.obj id _ hs
  have hm : hdrAddr (m id) = some ⟨g, off, none⟩ := hm
  have h1 : m id = .pointer (some ⟨g', 0, none⟩) := h1
  rw [h1] at hm
  simp only [hdrAddr, Option.some.injEq, Addr.mk.injEq] at hm
  obtain ⟨rfl, rfl, _⟩ := hm
  have h3 : w.heap[g']? = some (.cells arr t (0, 0)) := h3
  have hx' : a.eval x = .pointer (some ⟨g', 0, none⟩) := by simpa using he
  refine QS.of R hd (v := .pointer (some ⟨g', 0, none⟩)) (fun w' hw' => ?_) (x := .ptr id 0 0 0) ⟨rfl, hl, g', 0, by show hdrAddr (m id) = _; rw [h1]; rfl, by simp⟩ hK
  have hgr : Grows w w' := hw'.resolve_left (by simp)
  have h3' : w'.heap[g']? = some (.cells arr t (0, 0)) := (hgr.block g' (Array.getElem?_eq_some_iff.1 h3).1).trans h3
  obtain ⟨_, hsz, _⟩ := tySz_run htz w'
  simp [execOp, ho, hx', Instr.fieldAt, run_underlying hu, hj, Instr.sureAddr, fieldPlace, hsz, partAt, byteOf, noView, viewAt, shape, World.shape?, h3', hc, hf, Sem.run]
theorem q_fieldAddr {mf : Bool} {o : Oper} {T : TypeId} {x : Operand} {j : Nat} (hmf : mf = (T != 200)) (ho : o.op = .fieldAddr T x j) (hd : dOk n o.dst) (R : RelC W0 S F n L m s a w) (h : opE P H o.dst (.fieldAddr T x j) s K) : QS mf P W0 S F n K o a w := by
  have h : sel (T == 200) _ _ := h
  cases hz : T == 200 with
  | true =>
    rw [hz] at h
    have : mf = false := by rw [hmf, bne, hz]; rfl
    subst this
    exact q_fieldZ ho hd R h
  | false =>
  rw [hz] at h
  have hx := R.ev x
  obtain ⟨⟨off, k, g⟩, hf, hk, h1⟩ := onSome.elim (show onSome _ _ from h)
  obtain ⟨fs, f, hu, hj, rfl, ht⟩ := fldTy_run hf
  have hrun : ∀ b o' : Nat, a.eval x = .pointer (some ⟨b, o', none⟩) → ∀ w', Gr mf w w' → (execOp a.eval o).run P w' = .ok (.value (.pointer (some ⟨b, o' + f.offset, none⟩))) w' := fun b o' he w' _ => by
    obtain ⟨_, hs, _⟩ := tySz_run ht w'
    simp [execOp, ho, he, Instr.fieldAt, run_underlying hu, hj, Instr.sureAddr, fieldPlace, hs, show k ≠ 0 from hk, add_none]
  rcases onAdr.elim h1 with ⟨r, e, sz, els, i, q, hv, h2⟩ | ⟨id, sz, i, q, hv, h2⟩
  · rw [hv] at hx
    obtain ⟨h3, h4, b, off, he, h5⟩ := hx
    exact QS.of (x := .rp r e sz els i (q + f.offset)) R hd (hrun b _ he) ⟨h3, h4, b, off, by rw [Nat.add_assoc (off + i * sz)], h5⟩ h2
  · rw [hv] at hx
    obtain ⟨h3, h4, b, off, h5, he⟩ := hx
    exact QS.of (x := .ptr id sz i (q + f.offset)) R hd (hrun b _ he) ⟨h3, h4, b, off, h5, by rw [Nat.add_assoc (off + i * sz)]⟩ h2
theorem q_field {mf : Bool} {o : Oper} {T : TypeId} {x : Operand} {j : Nat} (ho : o.op = .field T x j) (hd : dOk n o.dst) (R : RelC W0 S F n L m s a w) (h : opE P H o.dst (.field T x j) s K) : QS mf P W0 S F n K o a w := by
  have hx := R.ev x
  obtain ⟨⟨off, k, g⟩, hf, h1⟩ := onSome.elim (show onSome _ _ from h)
  obtain ⟨cs, hv, h2⟩ := onAgg.elim h1
  obtain ⟨y, hy, h3⟩ := onSome.elim h2
  obtain ⟨fs, f, hu, hj, rfl, ht⟩ := fldTy_run hf
  rw [hv] at hx
  obtain ⟨vs, he, hr⟩ := hx
  have hpart : ∃ v, (∀ w, (part f.type vs f.offset).run P w = .ok v w) ∧ Rep (cx w S F L m s.σ) false (.read .ent) y v := by
    unfold cut at hy
    cases g with
    | true =>
      obtain ⟨h4, rfl⟩ := sel_eq_some (show sel (Nat.ble (f.offset + k) cs.length) _ none = some y from hy)
      have hlen : f.offset + k ≤ cs.length := Nat.le_of_ble_eq_true h4
      refine ⟨.agg (vs.extract f.offset (f.offset + k)), fun w => by obtain ⟨ha, hs, _⟩ := tySz_run ht w; simp [part, ha, hs], _, rfl, ?_⟩
      have hseg : ∀ (cs : List AV) (vs : List Value) (q q' j k : Nat), RepVs (cx w S F L m s.σ) false (.read .ent) q cs vs → RepVs (cx w S F L m s.σ) false (.read .ent) q' ((cs.drop j).take k) ((vs.drop j).take k) := by
        intro cs
        induction cs with
        | nil => intro vs q q' j k h; obtain rfl := h; simp; rfl
        | cons c cs ih =>
          intro vs q q' j k h
          obtain ⟨y, ys, rfl, h1, h2⟩ := h
          cases j with
          | zero =>
            cases k with
            | zero => simp; rfl
            | succ k =>
              have := ih ys (q + 1) (q' + 1) 0 k h2
              simp only [List.drop_zero] at this
              exact ⟨y, _, rfl, h1, this⟩
          | succ j => exact ih ys (q + 1) q' j k h2
      have := hseg cs vs.toList 0 0 f.offset k hr
      simpa [Array.toList_extract, List.extract_eq_drop_take'] using this
    | false =>
      obtain ⟨c, hc', rfl⟩ := Option.map_eq_some_iff.1 (show (cs[f.offset]?).map _ = some y from hy)
      obtain ⟨v, g1, g2⟩ := hr.at_ hc'
      have g1' : vs[f.offset]? = some v := by simpa using g1
      exact ⟨v, fun w => by obtain ⟨ha, hs, _⟩ := tySz_run ht w; simp [part, ha, g1'], g2⟩
  obtain ⟨v, hv', hrep⟩ := hpart
  refine QS.of R hd (v := v) (fun w' hw' => ?_) hrep h3
  simp [execOp, ho, he, Instr.field, run_underlying hu, hj, asAgg, hv']
theorem elTy_run {T : TypeId} {e sz by_ : Nat} (h : elTy P T = some (e, sz, by_)) : ∃ i, P.underlying T = some (.slice e) ∧ P.info? e = some i ∧ i.size = sz ∧ i.bytes = by_ := by
  unfold elTy at h
  split at h
  · rename_i e' hu
    obtain ⟨i, h1, h2⟩ := Option.map_eq_some_iff.1 h
    simp only [Prod.mk.injEq] at h2
    obtain ⟨rfl, rfl, rfl⟩ := h2
    exact ⟨i, hu, h1, rfl, rfl⟩
  · cases h
theorem run_indexAt {T : TypeId} {e sz by_ : Nat} (h : elTy P T = some (e, sz, by_)) {b o len c : Nat} {k : IntKind} {i : Int} (h0 : 0 ≤ i) (h1 : i < len) (w : World) :
    (Instr.indexAt T (.slice (some ⟨b, o, none⟩) len c) (.int k i)).run P w = .ok (.pointer (some ⟨b, o + i.toNat * sz, none⟩)) w := by
  obtain ⟨t, hu, hi, hs, _⟩ := elTy_run h
  have hel : P.elem T = e := by simp [Program.elem, hu]
  rw [run_indexAt_slice w T ⟨b, o, none⟩ len c k i (by rw [hel]; exact hu), if_pos ⟨h0, h1⟩, hel]
  simp [sizeOf, typeInfo, hi, hs, add_none]
theorem ixTy_sl {T : TypeId} {t : Nat × Nat × Nat} (h : ixTy P T = some (.sl t)) : elTy P T = some t := by
  unfold ixTy at h
  unfold elTy
  split at h
  · rename_i e hu
    obtain ⟨i, h1, h2⟩ := Option.map_eq_some_iff.1 h
    injection h2 with h2
    rw [hu]
    simp [h1, h2]
  · obtain ⟨i, h1, h2⟩ := Option.map_eq_some_iff.1 h
    cases h2
  · cases h
theorem ixTy_ar {T : TypeId} {m sz : Nat} (h : ixTy P T = some (.ar m sz)) : ∃ e i, P.underlying T = some (.array m e) ∧ P.info? e = some i ∧ i.size = sz := by
  unfold ixTy at h
  split at h
  · obtain ⟨i, h1, h2⟩ := Option.map_eq_some_iff.1 h
    cases h2
  · rename_i n e hu
    obtain ⟨i, h1, h2⟩ := Option.map_eq_some_iff.1 h
    injection h2 with h2 h3
    subst h2
    exact ⟨e, i, hu, h1, h3⟩
  · cases h
theorem q_indexAddr {mf : Bool} {o : Oper} {T : TypeId} {x i : Operand} (ho : o.op = .indexAddr T x i) (hd : dOk n o.dst) (R : RelC W0 S F n L m s a w) (h : opE P H o.dst (.indexAddr T x i) s K) : QS mf P W0 S F n K o a w := by
  have hx := R.ev x
  have hi := R.ev i
  obtain ⟨ix, hix, h1⟩ := onSome.elim (show onSome _ _ from h)
  cases ix with
  | sl t =>
    obtain ⟨e, sz, by_⟩ := t
    have ht := ixTy_sl hix
    obtain ⟨k, j, hj, h2⟩ := onInt.elim h1
    rw [hj] at hi
    have key : ∀ (y : Org × List (List AV)), s.sl sz (s.ev x) = some y → 0 ≤ j ∧ j < y.2.length → (∀ b off A c, a.eval x = .slice A y.2.length c → A = some ⟨b, off, none⟩ → (cx w S F L m s.σ).st y.1 b → RepEls (cx w S F L m s.σ) (.read y.1) b off 0 sz y.2 → (cx w S F L m s.σ).alive y.1 →
        ∃ z, Rep (cx w S F L m s.σ) false (.read .ent) z (.pointer (some ⟨b, off + j.toNat * sz, none⟩)) ∧ K (s.put o.dst z)) → QS mf P W0 S F n K o a w := fun y hy hb hk => by
      obtain ⟨ha, A, c, he, h3, h4, h5⟩ := R.sl hy hx
      rcases h5 with h5 | ⟨b, off, hA, hst, hE⟩
      · rw [h5] at hb; simp at hb; omega
      · obtain ⟨z, hz, hkz⟩ := hk b off A c he hA hst hE ha
        refine QS.of R hd (v := .pointer (some ⟨b, off + j.toNat * sz, none⟩)) (fun w' _ => ?_) hz hkz
        subst hA
        simp only [execOp, ho, he, hi.1, Sem.run_bind]
        rw [run_indexAt ht hb.1 hb.2]; rfl
    rcases onRef.elim h2 with ⟨id, hv, h3⟩ | ⟨b, hv, h3⟩ | h3
    · obtain ⟨y, hy, hb, h4⟩ := onSome.elim h3
      refine key y (by rw [hv]; exact hy) hb (fun b off A c he hA _ _ _ => ⟨_, ?_, h4⟩)
      rw [hv] at hx
      refine ⟨rfl, hx.2.2.1, b, off, ?_, rfl⟩
      rw [← hx.2.2.2, he, hA]; rfl
    · exact h3.elim
    · obtain ⟨y, hy, hb, h4⟩ := onSome.elim h3
      exact key y hy hb (fun b off A c he hA hst hE ha => ⟨.rp y.1 e sz y.2 j.toNat 0, ⟨rfl, ha, b, off, rfl, hst, hE⟩, h4⟩)
  | ar m' sz =>
    obtain ⟨e, i', hu, hi', rfl⟩ := ixTy_ar hix
    obtain ⟨k, j, hj, hb, h2⟩ := onInt.elim h1
    rw [hj] at hi
    have hrun : ∀ b o' : Nat, a.eval x = .pointer (some ⟨b, o', none⟩) → ∀ w', Gr mf w w' → (execOp a.eval o).run P w' = .ok (.value (.pointer (some ⟨b, o' + j.toNat * i'.size, none⟩))) w' := fun b o' he w' _ => by
      have h1 : P.arrayLen T = m' := by simp [Program.arrayLen, hu]
      have h2 : P.elem T = e := by simp [Program.elem, hu]
      have := run_indexAt_array (P := P) w' T ⟨b, o', none⟩ k j (by rw [h1, h2]; exact hu)
      rw [if_pos (by rw [h1]; exact hb), h2] at this
      simp only [execOp, ho, he, hi.1, Sem.run_bind, this]
      simp [sizeOf, typeInfo, hi', add_none]
    rcases onAdr.elim h2 with ⟨r, e', sz', els, i2, q, hv, h3⟩ | ⟨id, sz', i2, q, hv, h3⟩
    · rw [hv] at hx
      obtain ⟨h4, h5, b, off, he, h6⟩ := hx
      exact QS.of (x := .rp r e' sz' els i2 (q + j.toNat * i'.size)) R hd (hrun b _ he) ⟨h4, h5, b, off, by rw [Nat.add_assoc (off + i2 * sz')], h6⟩ h3
    · rw [hv] at hx
      obtain ⟨h4, h5, b, off, h6, he⟩ := hx
      exact QS.of (x := .ptr id sz' i2 (q + j.toNat * i'.size)) R hd (hrun b _ he) ⟨h4, h5, b, off, h6, by rw [Nat.add_assoc (off + i2 * sz')]⟩ h3
end
end Go.Ev
