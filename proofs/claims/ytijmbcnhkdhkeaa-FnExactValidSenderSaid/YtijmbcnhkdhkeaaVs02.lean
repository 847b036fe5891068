/- Part 2 of what the row leans on: the evaluator, words, contracts of functions; pruned by a program of ours. -/
import Derived.Test.YtijmbcnhkdhkeaaVs01
import Derived.Below
import Derived.Deep.Draws
import Derived.Deep.LoopGhost
import Derived.StillTail
import Derived.MapKept
import Derived.Laws.Cells
import Derived.Laws.IdiomCopy
import Derived.Laws.Entries
import Derived.WalkSpells
import Derived.Laws.Small
import Derived.Laws.IdiomStrings
import Derived.Laws.Slices
import Derived.Laws.BytesArg
import Derived.Laws.Strings
import Derived.Deep.AppendSrc
import Derived.Great.BuildSlice
import Derived.Laws.MakeOwn
import Derived.Lib.AppendZeros
import Derived.Deep.Upon
import Derived.OrdersHeld
import Derived.Scope
import Derived.Test.YtijmbcnhkdhkeaaProg
import Derived.KernelRfl
import Derived.ChangeArms
import Derived.ChangeOld
import Derived.DataReads
import Derived.SizedLaws
import Derived.Test.YtijmbcnhkdhkeaaRows
set_option linter.unusedVariables false
set_option linter.unusedSimpArgs false
namespace Go.Ev
open Go Go.RowKit
theorem onSome.elim {α : Type} {o : Option α} {k : α → Prop} (h : onSome o k) : ∃ a, o = some a ∧ k a := by
  cases o with
  | none => exact False.elim h
  | some a => exact ⟨a, rfl, h⟩
theorem bindO_eq {α β : Type} {o : Option α} {k : α → Option β} {b : β} (h : bindO o k = some b) : ∃ a, o = some a ∧ k a = some b := by
  cases o with
  | none => cases h
  | some a => exact ⟨a, rfl, h⟩
theorem sel_eq_some {α : Type} {t : Bool} {a b : α} (h : sel t (some a) none = some b) : t = true ∧ a = b := by
  cases t with
  | true => exact ⟨rfl, Option.some.inj h⟩
  | false => cases h
theorem onInt.elim {a : AV} {k : Int → Prop} (h : onInt a k) : ∃ q n, a = .v (.int q n) ∧ k n := by
  unfold onInt at h
  split at h
  · exact ⟨_, _, rfl, h⟩
  · exact False.elim h
theorem onGd.elim {a : AV} {k : Bool → Prop} {k' : Prop} (h : onGd a k k') : (∃ b, a = .v (.bool b) ∧ k b) ∨ (a = .tup [] ∧ k') := by
  unfold onGd at h
  split at h
  · exact .inl ⟨_, rfl, h⟩
  · exact .inr ⟨rfl, h⟩
  · exact h.elim
theorem onBool.elim {a : AV} {k : Bool → Prop} (h : onBool a k) : ∃ b, a = .v (.bool b) ∧ k b := by
  unfold onBool at h
  split at h
  · exact ⟨_, rfl, h⟩
  · exact False.elim h
theorem onAdr.elim {a : AV} {kr : Org → Nat → Nat → List (List AV) → Nat → Nat → Prop} {kp : Id → Nat → Nat → Nat → Prop} (h : onAdr a kr kp) :
    (∃ o e sz els i k, a = .rp o e sz els i k ∧ kr o e sz els i k) ∨ ∃ id sz i k, a = .ptr id sz i k ∧ kp id sz i k := by
  unfold onAdr at h
  split at h
  · exact .inl ⟨_, _, _, _, _, _, rfl, h⟩
  · exact .inr ⟨_, _, _, _, rfl, h⟩
  · exact False.elim h
theorem onOB.elim {o : Option OB} {kr : Nat → Nat → List (List AV) → Prop} {kb : Nat → List AV → Prop} (h : onOB o kr kb) :
    (∃ e sz els, o = some (.row e sz els) ∧ kr e sz els) ∨ ∃ t cs, o = some (.box t cs) ∧ kb t cs := by
  unfold onOB at h
  split at h
  · exact .inl ⟨_, _, _, rfl, h⟩
  · exact .inr ⟨_, _, rfl, h⟩
  · exact False.elim h
theorem onRef.elim {a : AV} {kref : Id → Prop} {kstr : ByteArray → Prop} {k : AV → Prop} (h : onRef a kref kstr k) :
    (∃ id, a = .ref id ∧ kref id) ∨ (∃ b, a = .v (.string b) ∧ kstr b) ∨ k a := by
  unfold onRef at h
  split at h
  · exact .inl ⟨_, rfl, h⟩
  · exact .inr (.inl ⟨_, rfl, h⟩)
  · exact .inr (.inr h)
def Shows (C : Cx) (o : Org) (sz : Nat) (els : List (List AV)) (x : Value) : Prop :=
  C.alive o ∧ ∃ A c, x = .slice A els.length c ∧ els.length ≤ c ∧ els.length ≤ BIG ∧ (els = [] ∨ ∃ b off, A = some ⟨b, off, none⟩ ∧ C.st o b ∧ RepEls C (.read o) b off 0 sz els)
theorem Stays.refl (C : Cx) : Stays C C := ⟨fun _ h => ⟨h, rfl⟩, fun _ h => ⟨h, rfl⟩⟩
section
variable {P : Program} {H : Nat → Nat} {W0 : Bs} {S F : Nat → Prop} {n : Nat} {L : Nat → Option Id} {m : Id → Value} {s : St} {a : Act} {w : World} {K : St → Prop}
theorem RelC.live {id : Id} {ob : OB} (h : s.σ id = some ob) : (cx w S F L m s.σ).live id := by show (s.σ id).isSome = true; rw [h]; rfl
theorem RelC.toRead {id : Id} (hl : (cx w S F L m s.σ).live id) : Tr (cx w S F L m s.σ) (cx w S F L m s.σ) (.own id) (.read (.obj id)) := ⟨hl, fun _ q h => ⟨⟨q, h⟩, rfl⟩⟩
theorem RelC.row (R : RelC W0 S F n L m s a w) {id : Id} {e sz : Nat} {els : List (List AV)} (h : s.σ id = some (.row e sz els)) : Shows (cx w S F L m s.σ) (.obj id) sz els (m id) :=
  Rep.tr (Stays.refl _) (RelC.toRead (RelC.live h)) (.row e sz els) _ (R.obj id _ h)
theorem RelC.sl (R : RelC W0 S F n L m s a w) {sz : Nat} {av : AV} {o : Org} {els : List (List AV)} {x : Value} (h : s.sl sz av = some (o, els)) (hr : Rep (cx w S F L m s.σ) false (.read .ent) av x) : Shows (cx w S F L m s.σ) o sz els x := by
  cases av with
  | rd o' e' sz' els' =>
    obtain ⟨h1, h2⟩ := sel_eq_some h
    cases h2
    obtain rfl : sz' = sz := by simpa using h1
    exact ⟨hr.2.1.1, hr.2.2⟩
  | ref id =>
    simp only [St.sl] at h
    unfold rowOf at h
    split at h
    · rename_i e' sz' els' hs
      obtain ⟨h1, h2⟩ := sel_eq_some h
      cases h2
      obtain rfl : sz' = sz := by simpa using h1
      rw [show x = m id from hr.2.2.2]
      exact R.row hs
    · cases h
  | v u =>
    simp only [St.sl] at h
    unfold nilV at h
    split at h
    · cases h
      rw [hr.1]
      exact ⟨trivial, none, 0, rfl, Nat.le_refl _, Nat.zero_le _, .inl rfl⟩
    · cases h
  | _ => cases h
theorem RepEls.at_ {C : Cx} {md : Md} {b sz : Nat} : ∀ {els : List (List AV)} {off q i : Nat} {cs : List AV}, RepEls C md b off q sz els → els[i]? = some cs → cs.length = sz ∧ RepCs C true md b (off + i * sz) (q + i * sz) cs
  | [], _, _, _, _, _, h => by simp at h
  | e :: es, off, q, 0, cs, h, hi => by
    obtain rfl : e = cs := by simpa using hi
    exact ⟨h.1, by simpa using h.2.1⟩
  | e :: es, off, q, i + 1, cs, h, hi => by
    have := RepEls.at_ (i := i) h.2.2 (by simpa using hi)
    rw [Nat.add_assoc, Nat.add_assoc, show sz + i * sz = (i + 1) * sz by rw [Nat.add_mul, Nat.one_mul, Nat.add_comm]] at this
    exact this
theorem RepCs.at_ {C : Cx} {cl : Bool} {md : Md} {b : Nat} : ∀ {cs : List AV} {off q k : Nat} {c : AV}, RepCs C cl md b off q cs → cs[k]? = some c → ∃ y, C.w.cell? ⟨b, off + k, none⟩ = some y ∧ one y ∧ Rep C cl (md.sub (q + k)) c y
  | [], _, _, _, _, _, h => by simp at h
  | e :: es, off, q, 0, c, h, hi => by
    obtain rfl : e = c := by simpa using hi
    exact h.1
  | e :: es, off, q, k + 1, c, h, hi => by
    have := RepCs.at_ (k := k) h.2 (by simpa using hi)
    rw [show off + 1 + k = off + (k + 1) by omega, show q + 1 + k = q + (k + 1) by omega] at this
    exact this
theorem RepCs.drop {C : Cx} {cl : Bool} {md : Md} {b : Nat} : ∀ (k : Nat) {cs : List AV} {off q : Nat}, RepCs C cl md b off q cs → RepCs C cl md b (off + k) (q + k) (cs.drop k)
  | 0, cs, _, _, h => by simpa using h
  | k + 1, [], _, _, _ => trivial
  | k + 1, c :: cs, off, q, h => by
    have := RepCs.drop k h.2
    rw [show off + (k + 1) = off + 1 + k by omega, show q + (k + 1) = q + 1 + k by omega]
    exact this
theorem RepCs.take {C : Cx} {cl : Bool} {md : Md} {b : Nat} : ∀ (k : Nat) {cs : List AV} {off q : Nat}, RepCs C cl md b off q cs → RepCs C cl md b off q (cs.take k)
  | 0, cs, _, _, _ => by rw [List.take_zero]; trivial
  | k + 1, [], _, _, _ => trivial
  | k + 1, c :: cs, off, q, h => ⟨h.1, RepCs.take k h.2⟩
theorem Org.base_alive {C : Cx} : ∀ {o : Org}, C.alive o → C.alive o.base
  | .ent, h => h
  | .frz, h => h
  | .obj _, h => h
  | .at _ _ _ _, h => h
theorem Org.base_st {C : Cx} : ∀ {o : Org} {b : Nat}, C.st o b → C.st o.base b
  | .ent, _, h => h
  | .frz, _, h => h
  | .obj _, _, h => h
  | .at _ _ _ _, _, h => h
theorem Org.base_hdr {C : Cx} {x : Value} : ∀ {o : Org}, C.hdr o.base x
  | .ent => trivial
  | .frz => trivial
  | .obj _ => trivial
  | .at _ _ _ _ => trivial
theorem Org.tr_base {C : Cx} (o : Org) : Tr C C (.read o) (.read o.base) := ⟨Org.base_alive, fun _ h => ⟨Org.base_st h, rfl⟩⟩
mutual
/-- A cell that is read, as a value of the frame's. -/
theorem rep_asrd {C : Cx} {o : Org} : ∀ {c : AV} {y : Value}, Rep C true (.read o) c y → Rep C false (.read .ent) (c.asrd o) y
  | .any, _, _ => trivial
  | .v u, _, h => h
  | .row e sz els, _, h => by
    have h' : Rep C true (.read o.base) (.row e sz els) _ := Rep.tr ⟨fun _ h => ⟨h, rfl⟩, fun _ h => ⟨h, rfl⟩⟩ (Org.tr_base o) _ _ h
    exact ⟨by simp, ⟨h'.1, Org.base_hdr⟩, h'.2⟩
  | .rd o' e sz els, _, h => ⟨by simp, h.2⟩
  | .rp .., _, h => absurd h.1 (by simp)
  | .ref .., _, h => absurd h.1 (by simp)
  | .ptr .., _, h => absurd h.1 (by simp)
  | .agg cs, _, h => by
    obtain ⟨vs, rfl, h⟩ := h
    exact ⟨vs, rfl, repVs_asrd h⟩
  | .tup cs, _, h => by
    obtain ⟨vs, rfl, h⟩ := h
    exact ⟨vs, rfl, repVs_asrd h⟩
  | .bx t cs, _, h => by
    obtain ⟨ha, g, off, rfl, h1, h2⟩ := h
    exact ⟨rfl, ha, g, off, by simp, h1, rfl, h2, trivial⟩
  | .ifc t a, _, h => by
    obtain ⟨v, rfl, h⟩ := h
    exact ⟨v, rfl, rep_asrd h⟩
  | .fn f cs, _, h => by
    obtain ⟨vs, rfl, h⟩ := h
    exact ⟨vs, rfl, repVs_asrd h⟩
theorem repVs_asrd {C : Cx} {o : Org} : ∀ {cs : List AV} {vs : List Value} {q q' : Nat}, RepVs C true (.read o) q cs vs → RepVs C false (.read .ent) q' (asrdL o cs) vs
  | [], _, _, _, h => h
  | c :: cs, _, _, q', h => by
    obtain ⟨y, ys, rfl, h1, h2⟩ := h
    exact ⟨y, ys, rfl, rep_asrd h1, repVs_asrd h2⟩
end
theorem RepCs.vals {C : Cx} {cl cl' : Bool} {md md' : Md} {b : Nat} {f : AV → AV} (hf : ∀ q c y, one y → Rep C cl (md.sub q) c y → Rep C cl' md' (f c) y) (hm : ∀ q, md'.sub q = md') : ∀ {cs : List AV} {off q q' : Nat}, RepCs C cl md b off q cs →
    ∃ vs : List Value, vs.length = cs.length ∧ (∀ j v, vs[j]? = some v → C.w.cell? ⟨b, off + j, none⟩ = some v ∧ one v) ∧ RepVs C cl' md' q' (cs.map f) vs
  | [], off, q, q', _ => ⟨[], rfl, fun j v h => by simp at h, rfl⟩
  | c :: cs, off, q, q', h => by
    obtain ⟨⟨y, h1, h2, h3⟩, h4⟩ := h
    obtain ⟨vs, g1, g2, g3⟩ := RepCs.vals hf hm (q' := q' + 1) h4
    refine ⟨y :: vs, by simp [g1], fun j v hj => ?_, y, vs, rfl, by rw [hm]; exact hf _ _ _ h2 h3, g3⟩
    cases j with
    | zero => obtain rfl : y = v := by simpa using hj
              exact ⟨h1, h2⟩
    | succ j => have := g2 j v (by simpa using hj)
                rwa [show off + (j + 1) = off + 1 + j by omega]
theorem tySz_run {T : TypeId} {k : Nat} {g : Bool} (h : tySz P T = some (k, g)) (w : World) : (isAgg T).run P w = .ok g w ∧ (sizeOf T).run P w = .ok k w ∧ (P.info? T).map (·.size) = some k := by
  unfold tySz at h
  split at h
  · rename_i i d hi hd
    simp only [Option.some.injEq, Prod.mk.injEq] at h
    obtain ⟨rfl, rfl⟩ := h
    refine ⟨?_, by simp [sizeOf, typeInfo, hi], by simp [hi]⟩
    simp only [isAgg, Sem.run_bind, run_underlying hd, Result.andThen_ok]
    cases d <;> rfl
  · cases h
theorem add_none (b o k : Nat) : (⟨b, o, none⟩ : Addr).add k = ⟨b, o + k, none⟩ := by unfold Addr.add; split <;> simp_all
theorem run_loadAt_agg {T : TypeId} {k : Nat} (h : tySz P T = some (k, true)) {w : World} {b o : Nat} {vs : List Value} (hl : vs.length = k) (hv : ∀ j v, vs[j]? = some v → w.cell? ⟨b, o + j, none⟩ = some v) :
    (Instr.loadAt T (.pointer (some ⟨b, o, none⟩))).run P w = .ok (.agg vs.toArray) w := by
  obtain ⟨h1, h2, _⟩ := tySz_run h w
  have h3 := run_loadCells_list (P := P) w ⟨b, o, none⟩ vs (fun j v hj => by rw [add_none]; exact hv j v hj)
  rw [hl] at h3
  simp [Instr.loadAt, Instr.sureAddr, loadVar, h1, h2, h3]
theorem run_loadAt_one {T : TypeId} {k : Nat} (h : tySz P T = some (k, false)) {w : World} {b o : Nat} {v : Value} (hv : w.cell? ⟨b, o, none⟩ = some v) :
    (Instr.loadAt T (.pointer (some ⟨b, o, none⟩))).run P w = .ok v w := by
  obtain ⟨h1, h2, _⟩ := tySz_run h w
  simp [Instr.loadAt, Instr.sureAddr, loadVar, h1, hv]
structure Grows (w w' : World) : Prop where
  size : w.heap.size ≤ w'.heap.size
  block : ∀ b, b < w.heap.size → w'.heap[b]? = w.heap[b]?
theorem Grows.refl (w : World) : Grows w w := ⟨Nat.le_refl _, fun _ _ => rfl⟩
theorem Grows.cell {w w' : World} (h : Grows w w') {b o : Nat} {v : Value} (hc : w.cell? ⟨b, o, none⟩ = some v) : w'.cell? ⟨b, o, none⟩ = some v := by
  have hb : b < w.heap.size := by
    unfold World.cell? at hc
    cases he : w.heap[b]? with
    | none => rw [he] at hc; cases hc
    | some x => exact (Array.getElem?_eq_some_iff.1 he).1
  rw [cell_same (h.block b hb) o]; exact hc
theorem run_load_cut {T : TypeId} {k : Nat} {g : Bool} (h : tySz P T = some (k, g)) {C : Cx} {cl cl' : Bool} {md : Md} {b off q j : Nat} {cs : List AV} (hc : RepCs C cl md b off q cs) {f : AV → AV} {x : AV} (hx : cut g k j cs f = some x)
    (hf1 : g = false → ∀ c y, C.w.cell? ⟨b, off + j, none⟩ = some y → Rep C cl (md.sub (q + j)) c y → Rep C cl' (.read .ent) (f c) y) (hf : g = true → ∀ q c y, Rep C cl (md.sub q) c y → Rep C cl' (.read .ent) (f c) y) : ∃ v, (∀ w', Grows C.w w' → (Instr.loadAt T (.pointer (some ⟨b, off + j, none⟩))).run P w' = .ok v w') ∧ Rep C cl' (.read .ent) x v := by
  unfold cut at hx
  cases g with
  | true =>
    obtain ⟨h1, rfl⟩ := sel_eq_some (show sel (Nat.ble (j + k) cs.length) _ none = some x from hx)
    have hlen : j + k ≤ cs.length := Nat.le_of_ble_eq_true h1
    obtain ⟨vs, g1, g2, g3⟩ := RepCs.vals (q' := 0) (fun q c y _ => hf rfl q c y) (fun _ => rfl) ((hc.drop j).take k)
    refine ⟨.agg vs.toArray, fun w' hw' => run_loadAt_agg h (by rw [g1, List.length_take, List.length_drop]; omega) (fun i v hi => hw'.cell (g2 i v hi).1), vs.toArray, rfl, by simpa using g3⟩
  | false =>
    obtain ⟨c, hc', rfl⟩ := Option.map_eq_some_iff.1 (show (cs[j]?).map f = some x from hx)
    obtain ⟨y, h1, h2, h3⟩ := hc.at_ hc'
    exact ⟨y, fun w' hw' => run_loadAt_one h (hw'.cell h1), hf1 rfl _ _ h1 h3⟩
def Gr (mf : Bool) (w w' : World) : Prop := mf = true ∨ Grows w w'
def QS (mf : Bool) (P : Program) (W0 : Bs) (S F : Nat → Prop) (n : Nat) (K : St → Prop) (o : Oper) (a : Act) (w : World) : Prop :=
  ∃ v s', (∀ w', Gr mf w w' → (execOp a.eval o).run P w' = .ok (.value v) w') ∧ Rel W0 S F n s' (a.put o.dst v) w ∧ K s'
theorem QS.of {mf : Bool} {o : Oper} (R : RelC W0 S F n L m s a w) (hd : dOk n o.dst) {v : Value} (hr : ∀ w', Gr mf w w' → (execOp a.eval o).run P w' = .ok (.value v) w') {x : AV} (hx : Rep (cx w S F L m s.σ) false (.read .ent) x v) (hk : K (s.put o.dst x)) : QS mf P W0 S F n K o a w :=
  ⟨v, _, hr, ⟨L, m, R.put hd hx⟩, hk⟩
theorem q_load {o : Oper} {T : TypeId} {x : Operand} (ho : o.op = .load T x) (hd : dOk n o.dst) (R : RelC W0 S F n L m s a w) (h : opE P H o.dst (.load T x) s K) : QS false P W0 S F n K o a w := by
  have hx := R.ev x
  obtain ⟨⟨k, g⟩, ht, h1⟩ := onSome.elim (show onSome _ _ from h)
  clear h
  have h := onAdr.elim h1
  clear h1
  rcases h with ⟨r, e, sz, els, i, j, hv, h⟩ | ⟨id, sz, i, j, hv, h⟩
  · rw [hv] at hx
    obtain ⟨cs, hcs, h⟩ := onSome.elim h
    obtain ⟨y, hy, h⟩ := onSome.elim h
    obtain ⟨_, ha, b, off, he, hb, hE⟩ := hx
    obtain ⟨_, hC⟩ := hE.at_ hcs
    obtain ⟨v, hrun, hrep⟩ := run_load_cut (P := P) ht hC (cl' := false) hy (fun _ c y _ h2 => rep_asrd h2) (fun _ q c y h2 => rep_asrd h2)
    refine QS.of R hd (v := v) (fun w' hw' => ?_) hrep h
    simp only [execOp, ho, he, Sem.run_bind]
    rw [hrun w' (hw'.resolve_left (by simp))]; rfl
  · rw [hv] at hx
    obtain ⟨_, hl, g', off, hg, he⟩ := hx
    replace h := onOB.elim h
    rcases h with ⟨e', sz', els, hs, h⟩ | ⟨t, cs, hs, h⟩
    · obtain ⟨rfl, h⟩ := h
      obtain ⟨cs, hcs, h⟩ := onSome.elim h
      obtain ⟨y, hy, h⟩ := onSome.elim h
      obtain ⟨_, A, c, hm, _, _, hE⟩ := R.row hs
      rw [show (cx w S F L m s.σ).m id = m id from rfl, hm] at hg
      rcases hE with rfl | ⟨b, off', rfl, hb, hE⟩
      · simp at hcs
      · simp only [hdrAddr, Option.some.injEq, Addr.mk.injEq] at hg
        obtain ⟨rfl, rfl, _⟩ := hg
        obtain ⟨_, hC⟩ := hE.at_ hcs
        have hm0 : m id = .slice (some ⟨b, off', none⟩) els.length c := hm
        have hLb : L b = some id := by
          obtain ⟨A', c', hm', hown⟩ := R.obj id _ hs
          rw [show (cx w S F L m s.σ).m id = m id from rfl, hm0] at hm'
          injection hm' with e1 _ _
          subst e1
          rcases hown with ⟨hh, _⟩ | ⟨g', off', arr, fr, q, h1, h2, _⟩
          · rw [hh] at hcs; simp at hcs
          · injection h1 with h1; injection h1 with h1; subst h1; exact h2
        obtain ⟨v, hrun, hrep⟩ := run_load_cut (P := P) ht hC (cl' := false) hy (fun hg c' y' hcell h2 => by
          rw [hg]
          show Rep _ false _ (AV.asat id sz' i j c') y'
          cases c' with
          | row e1 sz1 els1 =>
            have h3 : Rep (cx w S F L m s.σ) true (.read (.at id sz' i j)) (.row e1 sz1 els1) y' := Rep.tr (Stays.refl _) (show Tr _ _ (.read (.obj id)) (.read (.at id _ _ _)) from ⟨fun h => h, fun _ h => ⟨h, rfl⟩⟩) _ _ h2
            exact ⟨by simp, ⟨RelC.live hs, b, off', by rw [show (cx w S F L m s.σ).m id = m id from rfl, hm0]; rfl, hLb, by rw [← Nat.add_assoc]; exact hcell⟩, h3.2⟩
          | _ => exact rep_asrd h2) (fun hg q' c' y' h2 => by rw [hg]; exact rep_asrd h2)
        refine QS.of R hd (v := v) (fun w' hw' => ?_) hrep h
        simp only [execOp, ho, he, Sem.run_bind]
        rw [hrun w' (hw'.resolve_left (by simp))]; rfl
    · obtain ⟨rfl, h⟩ := h
      obtain ⟨y, hy, h⟩ := onSome.elim h
      obtain ⟨g2, arr, h1, h2, h3, h4, h5⟩ := R.obj id _ hs
      rw [show (cx w S F L m s.σ).m id = m id from rfl] at h1 hg
      rw [h1] at hg
      simp only [hdrAddr, Option.some.injEq, Addr.mk.injEq] at hg
      obtain ⟨rfl, rfl, _⟩ := hg
      obtain ⟨v, hrun, hrep⟩ := run_load_cut (P := P) ht h5 (cl' := false) hy (fun _ c y _ h2 => h2) (fun _ q c y h2 => h2)
      refine QS.of R hd (v := v) (fun w' hw' => ?_) hrep h
      simp only [execOp, ho, he, Sem.run_bind]
      simp only [Nat.zero_mul, Nat.add_zero]
      rw [hrun w' (hw'.resolve_left (by simp))]; rfl
theorem q_move {mf : Bool} {o : Oper} {x : Operand} (ho : o.op = .move x ∨ o.op = .assign x) (hd : dOk n o.dst) (R : RelC W0 S F n L m s a w) (h : K (s.put o.dst (s.ev x))) : QS mf P W0 S F n K o a w :=
  QS.of R hd (v := a.eval x) (fun w' _ => by rcases ho with ho | ho <;> simp [execOp, ho]) (R.ev x) h
theorem RelC.nilRow (R : RelC W0 S F n L m s a w) (id : Id) (e sz : Nat) : RelC W0 S F n L (fun y => if y = id then .slice none 0 0 else m y) ((s.chg [id] [id]).obj id (.row e sz [])) a w := by
  have kp : Keep (cx w S F L m s.σ) (cx w S F L (fun y => if y = id then .slice none 0 0 else m y) (updS (killS s.σ [id] [id]) id (.row e sz []))) [id] [id] := by
    refine ⟨⟨fun _ h => ⟨h, rfl⟩, fun _ h => ⟨h, rfl⟩⟩, fun _ h => h, fun y hy hl => ?_, fun y hy hl b q hb => ⟨hb, rfl⟩⟩
    have hne : y ≠ id := fun e => by subst e; rw [hit_self (by simp)] at hy; cases hy
    refine ⟨?_, if_neg hne⟩
    show (updS _ _ _ y).isSome = true
    have e1 : (y == id) = false := by simpa using hne
    unfold updS
    rw [e1]
    exact killS_isSome.2 ⟨hy, hl⟩
  exact R.upd1 (by simp) kp ⟨none, 0, if_pos rfl, .inl ⟨rfl, rfl, rfl⟩⟩ R.lab R.below
theorem q_asg {mf : Bool} {o : Oper} {x : Operand} (ho : o.op = .assign x) (hd : dOk n o.dst) (R : RelC W0 S F n L m s a w) (h : opE P H o.dst (.assign x) s K) : QS mf P W0 S F n K o a w := by
  have h : asgE P H o.dst x s K := h
  unfold asgE at h
  split at h
  · rename_i d hdst _
    cases hb : H d == 0 with
    | true =>
      rw [hb] at h
      exact q_move (.inr ho) hd R (by rw [hdst]; exact h)
    | false =>
      rw [hb] at h
      obtain ⟨t, _, h⟩ := onSome.elim h
      have R' := R.nilRow [d] t.1 t.2.1
      have e1 : ((s.chg [[d]] [[d]]).obj [d] (.row t.1 t.2.1 [])).σ [d] = some (.row t.1 t.2.1 []) := by show updS _ _ _ _ = _; simp [updS, sel]
      refine ⟨.slice none 0 0, _, fun w' _ => by simp [execOp, ho, Act.eval], ⟨_, _, R'.put hd (x := .ref [d]) ⟨rfl, trivial, RelC.live e1, (if_pos rfl).symm⟩⟩, ?_⟩
      rw [hdst]; exact h
  · exact q_move (.inr ho) hd R h
theorem q_pick {mf : Bool} {o : Oper} {c x y : Operand} (ho : o.op = .pick c x y) (hd : dOk n o.dst) (R : RelC W0 S F n L m s a w) (h : opE P H o.dst (.pick c x y) s K) : QS mf P W0 S F n K o a w := by
  obtain ⟨t, ht, h1⟩ := onBool.elim (show onBool _ _ from h)
  have hc := R.ev c
  rw [ht] at hc
  have hc : a.eval c = .bool t := hc.1
  cases t with
  | true => exact QS.of R hd (v := a.eval x) (fun w' _ => by simp [execOp, ho, hc, asBool]) (R.ev x) (h1.1 rfl)
  | false => exact QS.of R hd (v := a.eval y) (fun w' _ => by simp [execOp, ho, hc, asBool]) (R.ev y) (h1.2 rfl)
theorem bEq_str (a b : ByteArray) : (a.toList == b.toList) = decide (a = b) := by
  rw [Bool.eq_iff_iff]
  simp only [beq_iff_eq, decide_eq_true_eq]
  constructor
  · intro h
    have h1 : a.data.toList = b.data.toList := by simpa [ByteArray.toList_eq] using h
    cases a; cases b
    simp only [Array.toList_inj] at h1
    rw [h1]
  · rintro rfl; rfl
theorem eqGuard_int (op : BinOp) (t : TypeId) (x y : Operand) (k : IntKind) (n : Int) (v : Value) (w : World) : (eqGuard op t x y (.int k n) v).run P w = .ok () w := by cases op <;> rfl
theorem eqGuard_str (op : BinOp) (t : TypeId) (x y : Operand) (b : ByteArray) (v : Value) (w : World) : (eqGuard op t x y (.string b) v).run P w = .ok () w := by cases op <;> rfl
theorem intE_run {op : BinOp} {t : TypeId} {k k' : IntKind} {x y : Int} {K' : Value → Prop} (h : intE op k x k' y K') : ∃ u, (∀ w, (binOp op t (.int k x) (.int k' y)).run P w = .ok u w) ∧ one u ∧ K' u := by
  cases op
  all_goals simp only [intE] at h
  all_goals first
    | (obtain ⟨rfl, h1, h2⟩ := h
       refine ⟨_, ?_, ?_, h2⟩
       · intro w; simp only [binOp, ne_eq, not_true_eq_false, if_false, Op.intDiv, if_neg h1]; rfl
       · trivial)
    | (obtain ⟨rfl, h2⟩ := h
       refine ⟨_, ?_, ?_, h2⟩
       · intro w; simp only [binOp, ne_eq, not_true_eq_false, if_false]; rfl
       · trivial)
    | (obtain ⟨h1, h2⟩ := h
       refine ⟨_, ?_, ?_, h2⟩
       · intro w; simp only [binOp, Op.shift, if_neg (Int.not_lt.2 h1)]; rfl
       · trivial)
theorem q_binE {mf : Bool} {o : Oper} {op : BinOp} {t t' : TypeId} {x y : Operand} (ho : o.op = .binOp op t x y t') (hd : dOk n o.dst) (R : RelC W0 S F n L m s a w) (h : binE op (s.ev x) (s.ev y) (fun u => K (s.put o.dst (.v u)))) : QS mf P W0 S F n K o a w := by
  have hx := R.ev x
  have hy := R.ev y
  unfold binE at h
  split at h
  · rename_i e1 e2
    rw [e1] at hx
    rw [e2] at hy
    obtain ⟨u, h1, h2, h3⟩ := intE_run (P := P) (t := t) h
    refine QS.of R hd (v := u) (fun w' _ => ?_) (rep_v h2) h3
    replace h1 := h1 w'
    rw [← hx.1, ← hy.1] at h1
    simp only [execOp, ho, Sem.run_bind]
    rw [hx.1, hy.1] at h1 ⊢
    simp [eqGuard_int, h1]
  · rename_i a' b' e1 e2
    rw [e1] at hx
    rw [e2] at hy
    have key : ∀ u : Value, (∀ w, (binOp op t (.string a') (.string b')).run P w = .ok u w) → one u → K (s.put o.dst (.v u)) → QS mf P W0 S F n K o a w := fun u h1 h2 h3 => by
      refine QS.of R hd (v := u) (fun w' _ => ?_) (rep_v h2) h3
      simp only [execOp, ho, Sem.run_bind, hx.1, hy.1]
      simp [eqGuard_str, h1]
    cases op <;> simp only [strE] at h
    · exact key (.bool (decide (a' = b'))) (fun w => by simp [binOp, Op.stringOp, bEq_str]) trivial h
    · exact key (.bool (!decide (a' = b'))) (fun w => by simp [binOp, Op.stringOp, bEq_str]) trivial h
  · exact h.elim
theorem boolTy_run {T : TypeId} {x : Unit} (h : boolTy P T = some x) : P.underlying T = some .bool := by
  unfold boolTy at h
  split at h
  · assumption
  · cases h
theorem elTy_und {T : TypeId} {x : Nat × Nat × Nat} (h : elTy P T = some x) : ∃ e, P.underlying T = some (.slice e) := by
  unfold elTy at h
  split at h
  · exact ⟨_, by assumption⟩
  · cases h
theorem run_eqG {op : BinOp} {t : TypeId} {x y : Operand} {u v : Value} (hu : one u) (hn : u ≠ .nilIface) (w : World) : (eqGuard op t x y u v).run P w = .ok () w := by
  cases op <;> cases u <;> first | rfl | exact absurd rfl hn | exact hu.elim
theorem q_op {mf : Bool} {o : Oper} {op : BinOp} {t t' : TypeId} {x y : Operand} (ho : o.op = .binOp op t x y t') (hd : dOk n o.dst) (R : RelC W0 S F n L m s a w) (hu : one (a.eval x)) (hn : a.eval x ≠ .nilIface) {v : Value} (hv : one v) (hrun : ∀ w, (binOp op t (a.eval x) (a.eval y)).run P w = .ok v w) (h : K (s.put o.dst (.v v))) : QS mf P W0 S F n K o a w := by
  refine QS.of R hd (v := v) (fun w' _ => ?_) (rep_v hv) h
  simp only [execOp, ho, Sem.run_bind, run_eqG hu hn, Result.andThen_ok, hrun]
  rfl
theorem q_nil {mf : Bool} {o : Oper} {op : BinOp} {t t' : TypeId} {x y : Operand} (ho : o.op = .binOp op t x y t') (hd : dOk n o.dst) (R : RelC W0 S F n L m s a w) {e : Nat} (ht : P.underlying t = some (.slice e)) {A : Option Addr} {ln c : Nat} (hx : a.eval x = .slice A ln c) (hy : a.eval y = .slice none 0 0) {els : List (List AV)} (hA : A = none → els = [])
    (h : nilCmp op els (fun u => K (s.put o.dst (.v u)))) : QS mf P W0 S F n K o a w := by
  have hu : one (a.eval x) := by rw [hx]; trivial
  have hn : a.eval x ≠ .nilIface := by rw [hx]; simp
  cases op <;> simp only [nilCmp] at h
  · refine q_op ho hd R hu hn (v := .bool A.isNone) trivial (fun w => by rw [hx, hy]; exact Lib.run_eql_slice_nil w t e A ln c 0 0 ht) ?_
    cases A with
    | none => exact h.1 (hA rfl)
    | some A => exact h.2
  · refine q_op ho hd R hu hn (v := .bool (!A.isNone)) trivial (fun w => by rw [hx, hy]; exact run_neq_slice_nil_any w t e A ln c 0 0 ht) ?_
    cases A with
    | none => exact h.1 (hA rfl)
    | some A => exact h.2
theorem run_neq_bool {T : TypeId} (b1 b2 : Bool) (ht : P.underlying T = some .bool) (w : World) : (binOp .neq T (.bool b1) (.bool b2)).run P w = .ok (.bool (!decide (b1 = b2))) w := by
  have h1 := run_equal_bool (P := P) w T b1 b2 ht
  have e : binOp .neq T (.bool b1) (.bool b2) = (do Pure.pure (.bool (!(← Op.equal T (.bool b1) (.bool b2))))) := rfl
  rw [e]
  simp only [Sem.run_bind, h1]
  cases b1 <;> cases b2 <;> rfl
theorem q_bin {mf : Bool} {o : Oper} {op : BinOp} {t t' : TypeId} {x y : Operand} (ho : o.op = .binOp op t x y t') (hd : dOk n o.dst) (R : RelC W0 S F n L m s a w) (h : opE P H o.dst (.binOp op t x y t') s K) : QS mf P W0 S F n K o a w := by
  have hx := R.ev x
  have hy := R.ev y
  have h : binT P t s.σ op (s.ev x) (s.ev y) (fun u => K (s.put o.dst (.v u))) := h
  unfold binT at h
  split at h
  · rename_i b1 b2 e1 e2
    rw [e1] at hx
    rw [e2] at hy
    obtain ⟨_, ht, h⟩ := onSome.elim h
    have ht := boolTy_run ht
    have hu : one (a.eval x) := by rw [hx.1]; trivial
    have hn : a.eval x ≠ .nilIface := by rw [hx.1]; simp
    cases op <;> simp only [boolE] at h
    · exact q_op ho hd R hu hn (v := .bool (decide (b1 = b2))) trivial (fun w => by
        rw [hx.1, hy.1, run_eql_bool w t b1 b2 ht]
        cases b1 <;> cases b2 <;> rfl) h
    · exact q_op ho hd R hu hn (v := .bool (!decide (b1 = b2))) trivial (fun w => by rw [hx.1, hy.1]; exact run_neq_bool b1 b2 ht w) h
  · rename_i o' e' sz' els e1 e2
    rw [e1] at hx
    rw [e2] at hy
    obtain ⟨_, ht, h⟩ := onSome.elim h
    obtain ⟨e, ht⟩ := elTy_und ht
    obtain ⟨_, _, A, c, hxe, _, _, hA⟩ := hx
    exact q_nil ho hd R ht hxe hy.1 (fun hn => by
      rcases hA with hA | ⟨b, off, hA, _⟩
      · exact hA
      · rw [hn] at hA; cases hA) h
  · rename_i id e1 e2
    rw [e1] at hx
    rw [e2] at hy
    obtain ⟨_, ht, h⟩ := onSome.elim h
    obtain ⟨e, ht⟩ := elTy_und ht
    rcases onOB.elim h with ⟨e', sz', els, hs, h⟩ | ⟨_, _, _, h⟩
    · obtain ⟨A, c, hm, hA⟩ := R.obj id _ hs
      have hxe : a.eval x = .slice A els.length c := hx.2.2.2.trans hm
      exact q_nil ho hd R ht hxe hy.1 (fun hn => by
        rcases hA with hA | ⟨g, off, arr, fr, q, hA, _⟩
        · exact hA.1
        · rw [hn] at hA; cases hA) h
    · exact h.elim
  · rename_i e1 e2
    rw [e1] at hx
    rw [e2] at hy
    obtain ⟨_, ht, h⟩ := onSome.elim h
    obtain ⟨e, ht⟩ := elTy_und ht
    have hu : one (a.eval x) := by rw [hx.1]; trivial
    have hn : a.eval x ≠ .nilIface := by rw [hx.1]; simp
    cases op <;> simp only [nil0] at h
    · exact q_op ho hd R hu hn (v := .bool true) trivial (fun w => by rw [hx.1, hy.1]; exact Lib.run_eql_slice_nil w t e none 0 0 0 0 ht) h
    · exact q_op ho hd R hu hn (v := .bool false) trivial (fun w => by rw [hx.1, hy.1]; exact run_neq_slice_nil_any w t e none 0 0 0 0 ht) h
  · exact q_binE ho hd R h
theorem q_un {mf : Bool} {o : Oper} {op : UnOp} {t : TypeId} {x : Operand} (ho : o.op = .unOp op t x) (hd : dOk n o.dst) (R : RelC W0 S F n L m s a w) (h : opE P H o.dst (.unOp op t x) s K) : QS mf P W0 S F n K o a w := by
  have hx := R.ev x
  have h1 : unE op (s.ev x) (fun u => K (s.put o.dst (.v u))) := h
  clear h
  generalize s.ev x = av at h1 hx
  unfold unE at h1
  split at h1
  · rename_i b
    exact QS.of (v := .bool (!b)) R hd (fun w' _ => by simp [execOp, ho, hx.1, Op.unary]) (rep_v trivial) h1
  · rename_i k y
    exact QS.of (v := .int k (k.wrap (0 - y))) R hd (fun w' _ => by simp [execOp, ho, hx.1, Op.unary, Op.intArith]) (rep_v trivial) h1
  · rename_i k y
    exact QS.of (v := .int k (k.wrap (BitVec.ofInt k.bits (if k.signed then -1 else k.max) ^^^ BitVec.ofInt k.bits y).toNat)) R hd (fun w' _ => by simp only [execOp, ho, hx.1, Op.unary, Op.intBits]; rfl) (rep_v trivial) h1
  · exact h1.elim
theorem q_nilCheck {mf : Bool} {o : Oper} {x : Operand} (ho : o.op = .nilCheck x) (hd : dOk n o.dst) (R : RelC W0 S F n L m s a w) (h : opE P H o.dst (.nilCheck x) s K) : QS mf P W0 S F n K o a w := by
  have hx := R.ev x
  rcases onAdr.elim (show onAdr _ _ _ from h) with ⟨r, e, sz, els, i, j, hv, h1⟩ | ⟨id, sz, i, j, hv, h1⟩
  · rw [hv] at hx
    have hx' := hx
    obtain ⟨_, _, b, off, he, _⟩ := hx'
    exact QS.of R hd (v := a.eval x) (fun w' _ => by simp [execOp, ho, he]) hx h1
  · rw [hv] at hx
    have hx' := hx
    obtain ⟨_, _, b, off, _, he⟩ := hx'
    exact QS.of R hd (v := a.eval x) (fun w' _ => by simp [execOp, ho, he]) hx h1
theorem RepVs.at_ {C : Cx} {cl : Bool} {md : Md} : ∀ {cs : List AV} {vs : List Value} {q k : Nat} {c : AV}, RepVs C cl md q cs vs → cs[k]? = some c → ∃ v, vs[k]? = some v ∧ Rep C cl (md.sub (q + k)) c v
  | [], _, _, _, _, _, h => by simp at h
  | e :: es, vs, q, 0, c, h, hi => by
    obtain rfl : e = c := by simpa using hi
    obtain ⟨y, ys, rfl, h1, _⟩ := h
    exact ⟨y, by simp, h1⟩
  | e :: es, vs, q, k + 1, c, h, hi => by
    obtain ⟨y, ys, rfl, _, h2⟩ := h
    obtain ⟨v, g1, g2⟩ := RepVs.at_ (k := k) h2 (by simpa using hi)
    exact ⟨v, by simpa using g1, by rwa [show q + 1 + k = q + (k + 1) by omega] at g2⟩
theorem onTup.elim {a : AV} {k : List AV → Prop} (h : onTup a k) : ∃ cs, a = .tup cs ∧ k cs := by
  unfold onTup at h
  split at h
  · exact ⟨_, rfl, h⟩
  · exact False.elim h
theorem onFn.elim {a : AV} {k : Nat → List AV → Prop} (h : onFn a k) : ∃ f cs, k f cs ∧ ∀ {C : Cx} {y : Value}, Rep C false (.read .ent) a y → ∃ vs, y = .func (.func f) #[] vs ∧ RepVs C false (.read .ent) 0 cs vs.toList := by
  unfold onFn at h
  split at h
  · exact ⟨_, _, h, fun h => h⟩
  · exact ⟨_, _, h, fun h => ⟨#[], h.1, rfl⟩⟩
  · exact False.elim h
theorem reps_map (R : RelC W0 S F n L m s a w) : ∀ (xs : List Operand) (q : Nat), RepVs (cx w S F L m s.σ) false (.read .ent) q (xs.map s.ev) (xs.map a.eval)
  | [], _ => rfl
  | x :: xs, q => ⟨a.eval x, xs.map a.eval, rfl, R.ev x, reps_map R xs _⟩
theorem q_makeFunc {mf : Bool} {o : Oper} {f : Fn} {fst caps : Array Operand} (ho : o.op = .makeFunc f fst caps) (hd : dOk n o.dst) (R : RelC W0 S F n L m s a w) (h : opE P H o.dst (.makeFunc f fst caps) s K) : QS mf P W0 S F n K o a w := by
  unfold opE at h
  split at h
  any_goals (rename_i e; cases e)
  · rename_i f
    exact QS.of R hd (x := .fn f (caps.toList.map s.ev)) (v := .func (.func f) #[] (caps.map a.eval)) (fun w' _ => by simp [execOp, ho, Instr.makeFunc]) ⟨caps.map a.eval, rfl, by simpa using reps_map R caps.toList 0⟩ h
  · exact h.elim
theorem q_makeInterface {mf : Bool} {o : Oper} {T : TypeId} {x : Operand} (ho : o.op = .makeInterface T x) (hd : dOk n o.dst) (R : RelC W0 S F n L m s a w) (h : opE P H o.dst (.makeInterface T x) s K) : QS mf P W0 S F n K o a w := by
  obtain ⟨_, ht, h1⟩ := onSome.elim (show onSome _ _ from h)
  refine QS.of R hd (x := .ifc T (s.ev x)) (v := .iface T (a.eval x)) (fun w' _ => ?_) ⟨a.eval x, rfl, R.ev x⟩ h1
  unfold ifcTy at ht
  split at ht
  · cases ht
  · rename_i d hne hd'
    cases d <;> first | exact (hne _ rfl).elim | simp [execOp, ho, Instr.makeInterface, run_underlying hd']
  · cases ht
theorem onAgg.elim {a : AV} {k : List AV → Prop} (h : onAgg a k) : ∃ cs, a = .agg cs ∧ k cs := by
  unfold onAgg at h
  split at h
  · exact ⟨_, rfl, h⟩
  · exact False.elim h
theorem q_extract {mf : Bool} {o : Oper} {x : Operand} {k : Nat} (ho : o.op = .extract x k) (hd : dOk n o.dst) (R : RelC W0 S F n L m s a w) (h : opE P H o.dst (.extract x k) s K) : QS mf P W0 S F n K o a w := by
  have hx := R.ev x
  obtain ⟨cs, hv, h1⟩ := onTup.elim (show onTup _ _ from h)
  obtain ⟨c, hc, h2⟩ := onSome.elim h1
  rw [hv] at hx
  obtain ⟨vs, he, hr⟩ := hx
  obtain ⟨v, g1, g2⟩ := hr.at_ hc
  refine QS.of R hd (v := v) (fun w' _ => ?_) g2 h2
  have g1' : vs[k]? = some v := by simpa using g1
  simp [execOp, ho, he, Instr.extract, g1']
theorem fldTy_run {T : TypeId} {j off k : Nat} {g : Bool} (h : fldTy P T j = some (off, k, g)) : ∃ fs f, P.underlying T = some (.struct fs) ∧ fs[j]? = some f ∧ f.offset = off ∧ tySz P f.type = some (k, g) := by
  unfold fldTy at h
  split at h
  · rename_i fs hu
    split at h
    · rename_i f hf
      obtain ⟨⟨k', g'⟩, h1, h2⟩ := Option.map_eq_some_iff.1 h
      simp only [Prod.mk.injEq] at h2
      obtain ⟨rfl, rfl, rfl⟩ := h2
      exact ⟨fs, f, hu, hf, rfl, h1⟩
    · cases h
  · cases h
theorem q_fieldAddr {mf : Bool} {o : Oper} {T : TypeId} {x : Operand} {j : Nat} (ho : o.op = .fieldAddr T x j) (hd : dOk n o.dst) (R : RelC W0 S F n L m s a w) (h : opE P H o.dst (.fieldAddr T x j) s K) : QS mf P W0 S F n K o a w := by
  have hx := R.ev x
  obtain ⟨⟨off, k, g⟩, hf, hk, h1⟩ := onSome.elim (show onSome _ _ from h)
  obtain ⟨fs, f, hu, hj, rfl, ht⟩ := fldTy_run hf
  have hrun : ∀ b o' : Nat, a.eval x = .pointer (some ⟨b, o', none⟩) → ∀ w', Gr mf w w' → (execOp a.eval o).run P w' = .ok (.value (.pointer (some ⟨b, o' + f.offset, none⟩))) w' := fun b o' he w' _ => by
    obtain ⟨_, hs, _⟩ := tySz_run ht w'
    simp [execOp, ho, he, Instr.fieldAt, run_underlying hu, hj, Instr.sureAddr, fieldPlace, hs, show k ≠ 0 from hk, add_none]
  rcases onAdr.elim h1 with ⟨r, e, sz, els, i, q, hv, h2⟩ | ⟨id, sz, i, q, hv, h2⟩
  · rw [hv] at hx
    obtain ⟨h3, h4, b, off, he, h5⟩ := hx
    exact QS.of (x := .rp r e sz els i (q + f.offset)) R hd (hrun b _ he) ⟨h3, h4, b, off, by rw [Nat.add_assoc (off + i * sz)], h5⟩ h2
  · rw [hv] at hx
    obtain ⟨h3, h4, b, off, h5, he⟩ := hx
    exact QS.of (x := .ptr id sz i (q + f.offset)) R hd (hrun b _ he) ⟨h3, h4, b, off, h5, by rw [Nat.add_assoc (off + i * sz)]⟩ h2
theorem q_field {mf : Bool} {o : Oper} {T : TypeId} {x : Operand} {j : Nat} (ho : o.op = .field T x j) (hd : dOk n o.dst) (R : RelC W0 S F n L m s a w) (h : opE P H o.dst (.field T x j) s K) : QS mf P W0 S F n K o a w := by
  have hx := R.ev x
  obtain ⟨⟨off, k, g⟩, hf, h1⟩ := onSome.elim (show onSome _ _ from h)
  obtain ⟨cs, hv, h2⟩ := onAgg.elim h1
  obtain ⟨y, hy, h3⟩ := onSome.elim h2
  obtain ⟨fs, f, hu, hj, rfl, ht⟩ := fldTy_run hf
  rw [hv] at hx
  obtain ⟨vs, he, hr⟩ := hx
  have hpart : ∃ v, (∀ w, (part f.type vs f.offset).run P w = .ok v w) ∧ Rep (cx w S F L m s.σ) false (.read .ent) y v := by
    unfold cut at hy
    cases g with
    | true =>
      obtain ⟨h4, rfl⟩ := sel_eq_some (show sel (Nat.ble (f.offset + k) cs.length) _ none = some y from hy)
      have hlen : f.offset + k ≤ cs.length := Nat.le_of_ble_eq_true h4
      refine ⟨.agg (vs.extract f.offset (f.offset + k)), fun w => by obtain ⟨ha, hs, _⟩ := tySz_run ht w; simp [part, ha, hs], _, rfl, ?_⟩
      have hseg : ∀ (cs : List AV) (vs : List Value) (q q' j k : Nat), RepVs (cx w S F L m s.σ) false (.read .ent) q cs vs → RepVs (cx w S F L m s.σ) false (.read .ent) q' ((cs.drop j).take k) ((vs.drop j).take k) := by
        intro cs
        induction cs with
        | nil => intro vs q q' j k h; obtain rfl := h; simp; rfl
        | cons c cs ih =>
          intro vs q q' j k h
          obtain ⟨y, ys, rfl, h1, h2⟩ := h
          cases j with
          | zero =>
            cases k with
            | zero => simp; rfl
            | succ k =>
              have := ih ys (q + 1) (q' + 1) 0 k h2
              simp only [List.drop_zero] at this
              exact ⟨y, _, rfl, h1, this⟩
          | succ j => exact ih ys (q + 1) q' j k h2
      have := hseg cs vs.toList 0 0 f.offset k hr
      simpa [Array.toList_extract, List.extract_eq_drop_take'] using this
    | false =>
      obtain ⟨c, hc', rfl⟩ := Option.map_eq_some_iff.1 (show (cs[f.offset]?).map _ = some y from hy)
      obtain ⟨v, g1, g2⟩ := hr.at_ hc'
      have g1' : vs[f.offset]? = some v := by simpa using g1
      exact ⟨v, fun w => by obtain ⟨ha, hs, _⟩ := tySz_run ht w; simp [part, ha, g1'], g2⟩
  obtain ⟨v, hv', hrep⟩ := hpart
  refine QS.of R hd (v := v) (fun w' hw' => ?_) hrep h3
  simp [execOp, ho, he, Instr.field, run_underlying hu, hj, asAgg, hv']
theorem elTy_run {T : TypeId} {e sz by_ : Nat} (h : elTy P T = some (e, sz, by_)) : ∃ i, P.underlying T = some (.slice e) ∧ P.info? e = some i ∧ i.size = sz ∧ i.bytes = by_ := by
  unfold elTy at h
  split at h
  · rename_i e' hu
    obtain ⟨i, h1, h2⟩ := Option.map_eq_some_iff.1 h
    simp only [Prod.mk.injEq] at h2
    obtain ⟨rfl, rfl, rfl⟩ := h2
    exact ⟨i, hu, h1, rfl, rfl⟩
  · cases h
theorem run_indexAt {T : TypeId} {e sz by_ : Nat} (h : elTy P T = some (e, sz, by_)) {b o len c : Nat} {k : IntKind} {i : Int} (h0 : 0 ≤ i) (h1 : i < len) (w : World) :
    (Instr.indexAt T (.slice (some ⟨b, o, none⟩) len c) (.int k i)).run P w = .ok (.pointer (some ⟨b, o + i.toNat * sz, none⟩)) w := by
  obtain ⟨t, hu, hi, hs, _⟩ := elTy_run h
  have hel : P.elem T = e := by simp [Program.elem, hu]
  rw [run_indexAt_slice w T ⟨b, o, none⟩ len c k i (by rw [hel]; exact hu), if_pos ⟨h0, h1⟩, hel]
  simp [sizeOf, typeInfo, hi, hs, add_none]
theorem ixTy_sl {T : TypeId} {t : Nat × Nat × Nat} (h : ixTy P T = some (.sl t)) : elTy P T = some t := by
  unfold ixTy at h
  unfold elTy
  split at h
  · rename_i e hu
    obtain ⟨i, h1, h2⟩ := Option.map_eq_some_iff.1 h
    injection h2 with h2
    rw [hu]
    simp [h1, h2]
  · obtain ⟨i, h1, h2⟩ := Option.map_eq_some_iff.1 h
    cases h2
  · cases h
theorem ixTy_ar {T : TypeId} {m sz : Nat} (h : ixTy P T = some (.ar m sz)) : ∃ e i, P.underlying T = some (.array m e) ∧ P.info? e = some i ∧ i.size = sz := by
  unfold ixTy at h
  split at h
  · obtain ⟨i, h1, h2⟩ := Option.map_eq_some_iff.1 h
    cases h2
  · rename_i n e hu
    obtain ⟨i, h1, h2⟩ := Option.map_eq_some_iff.1 h
    injection h2 with h2 h3
    subst h2
    exact ⟨e, i, hu, h1, h3⟩
  · cases h
theorem q_indexAddr {mf : Bool} {o : Oper} {T : TypeId} {x i : Operand} (ho : o.op = .indexAddr T x i) (hd : dOk n o.dst) (R : RelC W0 S F n L m s a w) (h : opE P H o.dst (.indexAddr T x i) s K) : QS mf P W0 S F n K o a w := by
  have hx := R.ev x
  have hi := R.ev i
  obtain ⟨ix, hix, h1⟩ := onSome.elim (show onSome _ _ from h)
  cases ix with
  | sl t =>
    obtain ⟨e, sz, by_⟩ := t
    have ht := ixTy_sl hix
    obtain ⟨k, j, hj, h2⟩ := onInt.elim h1
    rw [hj] at hi
    have key : ∀ (y : Org × List (List AV)), s.sl sz (s.ev x) = some y → 0 ≤ j ∧ j < y.2.length → (∀ b off A c, a.eval x = .slice A y.2.length c → A = some ⟨b, off, none⟩ → (cx w S F L m s.σ).st y.1 b → RepEls (cx w S F L m s.σ) (.read y.1) b off 0 sz y.2 → (cx w S F L m s.σ).alive y.1 →
        ∃ z, Rep (cx w S F L m s.σ) false (.read .ent) z (.pointer (some ⟨b, off + j.toNat * sz, none⟩)) ∧ K (s.put o.dst z)) → QS mf P W0 S F n K o a w := fun y hy hb hk => by
      obtain ⟨ha, A, c, he, h3, h4, h5⟩ := R.sl hy hx
      rcases h5 with h5 | ⟨b, off, hA, hst, hE⟩
      · rw [h5] at hb; simp at hb; omega
      · obtain ⟨z, hz, hkz⟩ := hk b off A c he hA hst hE ha
        refine QS.of R hd (v := .pointer (some ⟨b, off + j.toNat * sz, none⟩)) (fun w' _ => ?_) hz hkz
        subst hA
        simp only [execOp, ho, he, hi.1, Sem.run_bind]
        rw [run_indexAt ht hb.1 hb.2]; rfl
    rcases onRef.elim h2 with ⟨id, hv, h3⟩ | ⟨b, hv, h3⟩ | h3
    · obtain ⟨y, hy, hb, h4⟩ := onSome.elim h3
      refine key y (by rw [hv]; exact hy) hb (fun b off A c he hA _ _ _ => ⟨_, ?_, h4⟩)
      rw [hv] at hx
      refine ⟨rfl, hx.2.2.1, b, off, ?_, rfl⟩
      rw [← hx.2.2.2, he, hA]; rfl
    · exact h3.elim
    · obtain ⟨y, hy, hb, h4⟩ := onSome.elim h3
      exact key y hy hb (fun b off A c he hA hst hE ha => ⟨.rp y.1 e sz y.2 j.toNat 0, ⟨rfl, ha, b, off, rfl, hst, hE⟩, h4⟩)
  | ar m' sz =>
    obtain ⟨e, i', hu, hi', rfl⟩ := ixTy_ar hix
    obtain ⟨k, j, hj, hb, h2⟩ := onInt.elim h1
    rw [hj] at hi
    have hrun : ∀ b o' : Nat, a.eval x = .pointer (some ⟨b, o', none⟩) → ∀ w', Gr mf w w' → (execOp a.eval o).run P w' = .ok (.value (.pointer (some ⟨b, o' + j.toNat * i'.size, none⟩))) w' := fun b o' he w' _ => by
      have h1 : P.arrayLen T = m' := by simp [Program.arrayLen, hu]
      have h2 : P.elem T = e := by simp [Program.elem, hu]
      have := run_indexAt_array (P := P) w' T ⟨b, o', none⟩ k j (by rw [h1, h2]; exact hu)
      rw [if_pos (by rw [h1]; exact hb), h2] at this
      simp only [execOp, ho, he, hi.1, Sem.run_bind, this]
      simp [sizeOf, typeInfo, hi', add_none]
    rcases onAdr.elim h2 with ⟨r, e', sz', els, i2, q, hv, h3⟩ | ⟨id, sz', i2, q, hv, h3⟩
    · rw [hv] at hx
      obtain ⟨h4, h5, b, off, he, h6⟩ := hx
      exact QS.of (x := .rp r e' sz' els i2 (q + j.toNat * i'.size)) R hd (hrun b _ he) ⟨h4, h5, b, off, by rw [Nat.add_assoc (off + i2 * sz')], h6⟩ h3
    · rw [hv] at hx
      obtain ⟨h4, h5, b, off, h6, he⟩ := hx
      exact QS.of (x := .ptr id sz' i2 (q + j.toNat * i'.size)) R hd (hrun b _ he) ⟨h4, h5, b, off, h6, by rw [Nat.add_assoc (off + i2 * sz')]⟩ h3
end
end Go.Ev
set_option linter.unusedVariables false
set_option linter.unusedSimpArgs false
namespace Go.Ev
open Go Go.RowKit
section
variable {P : Program} {H : Nat → Nat} {W0 : Bs} {S F : Nat → Prop} {n : Nat} {L : Nat → Option Id} {m : Id → Value} {s : St} {a : Act} {w : World} {K : St → Prop}
theorem RepEls.drop {C : Cx} {md : Md} {b sz : Nat} : ∀ (k : Nat) {els : List (List AV)} {off q : Nat}, RepEls C md b off q sz els → RepEls C md b (off + k * sz) (q + k * sz) sz (els.drop k)
  | 0, els, _, _, h => by simpa using h
  | k + 1, [], _, _, _ => trivial
  | k + 1, e :: es, off, q, h => by
    have := RepEls.drop k h.2.2
    rw [Nat.add_assoc, Nat.add_assoc, show sz + k * sz = (k + 1) * sz by rw [Nat.add_mul, Nat.one_mul, Nat.add_comm]] at this
    exact this
theorem RepEls.take {C : Cx} {md : Md} {b sz : Nat} : ∀ (k : Nat) {els : List (List AV)} {off q : Nat}, RepEls C md b off q sz els → RepEls C md b off q sz (els.take k)
  | 0, els, _, _, _ => by rw [List.take_zero]; trivial
  | k + 1, [], _, _, _ => trivial
  | k + 1, e :: es, off, q, h => ⟨h.1, h.2.1, RepEls.take k h.2.2⟩
theorem Tr.refl_read (C : Cx) (o : Org) : Tr C C (.read o) (.read o) := ⟨id, fun _ h => ⟨h, rfl⟩⟩
theorem RepEls.q0 {C : Cx} {o : Org} {b off q sz : Nat} {els : List (List AV)} (h : RepEls C (.read o) b off q sz els) (q' : Nat) : RepEls C (.read o) b off q' sz els :=
  RepEls.tr (Stays.refl C) (Tr.refl_read C o) els rfl (.inl rfl) h
theorem boundE.elim (R : RelC W0 S F n L m s a w) {x : Option Operand} {d : Int} {k : Int → Prop} (h : boundE s x d k) : ∃ i, k i ∧ ((x = none ∧ i = d) ∨ ∃ q, x.map a.eval = some (.int q i)) := by
  cases x with
  | none => exact ⟨d, h, .inl ⟨rfl, rfl⟩⟩
  | some x =>
    obtain ⟨q, i, hv, hk⟩ := onInt.elim (show onInt _ _ from h)
    have hx := R.ev x
    rw [hv] at hx
    exact ⟨i, hk, .inr ⟨q, by simp [hx.1]⟩⟩
theorem run_slice_bounds {T e : TypeId} (hu : P.underlying T = some (.slice e)) {i : TypeInfo} (hi : P.info? e = some i) (A : Option Addr) (len cap : Nat) (hcap : len ≤ cap) {lo hi' : Option Value} {l h : Int}
    (hl : (lo = none ∧ l = 0) ∨ ∃ q, lo = some (.int q l)) (hh : (hi' = none ∧ h = len) ∨ ∃ q, hi' = some (.int q h)) (h0 : 0 ≤ l) (h1 : l ≤ h) (h2 : h ≤ len) (w : World) :
    (Instr.sliceAt T (.slice A len cap) lo hi' none).run P w = .ok (sliced A l.toNat h.toNat cap i.size) w := by
  have hel : P.elem T = e := by simp [Program.elem, hu]
  have hu' : P.underlying T = some (.slice (P.elem T)) := by rw [hel]; exact hu
  have hs : (sizeOf (P.elem T)).run P w = .ok i.size w := by rw [hel]; simp [sizeOf, typeInfo, hi]
  rw [run_sliceAt_slice w T _ _ _ _ hu']
  rcases hl with ⟨rfl, rfl⟩ | ⟨q, rfl⟩ <;> rcases hh with ⟨rfl, rfl⟩ | ⟨q', rfl⟩
  · rw [run_slice_all w T A len cap hu', hs]; simp
  · rw [run_slice_h w T A len cap hu' _ _ (by omega) (by omega), hs]; simp
  · rw [run_slice_l w T A len cap hu' _ _ h0 (by omega), hs]; simp
  · rw [run_slice_lh w T A len cap hu' _ _ _ _ h0 h1 (by omega), hs]; simp
theorem shows_sliced {C : Cx} {o : Org} {sz : Nat} {els : List (List AV)} {A : Option Addr} {cap : Nat} (h : Shows C o sz els (.slice A els.length cap)) {l r : Nat} (h1 : l ≤ r) (h2 : r ≤ els.length) :
    Shows C o sz ((els.take r).drop l) (sliced A l r cap sz) := by
  obtain ⟨ha, A', c, he, h3, h4, h5⟩ := h
  injection he with e1 _ e3
  subst e1; subst e3
  have hlen : ((els.take r).drop l).length = r - l := by rw [List.length_drop, List.length_take]; omega
  refine ⟨ha, if cap = l then A else A.map (·.add (l * sz)), cap - l, by rw [hlen]; rfl, by rw [hlen]; omega, by rw [hlen]; omega, ?_⟩
  rcases h5 with h5 | ⟨b, off, rfl, hb, hE⟩
  · left; rw [h5]; simp
  · by_cases hlt : l < r
    · right
      refine ⟨b, off + l * sz, ?_, hb, RepEls.q0 ((hE.take r).drop l) 0⟩
      rw [if_neg (by omega)]
      simp [add_none]
    · left
      exact List.eq_nil_of_length_eq_zero (by rw [hlen]; omega)
theorem Shows.rd {C : Cx} {o : Org} {e sz : Nat} {els : List (List AV)} {x : Value} (h : Shows C o sz els x) : Rep C false (.read .ent) (.rd o.base e sz els) x := by
  obtain ⟨ha, A, c, rfl, h1, h2, h3⟩ := h
  refine ⟨by simp, ⟨Org.base_alive ha, Org.base_hdr⟩, A, c, rfl, h1, h2, ?_⟩
  rcases h3 with h3 | ⟨b, off, rfl, hb, hr⟩
  · exact .inl h3
  · exact .inr ⟨b, off, rfl, Org.base_st hb, RepEls.tr (Stays.refl C) (Org.tr_base o) els rfl (.inl rfl) hr⟩
theorem q_slice {mf : Bool} {o : Oper} {T : TypeId} {x : Operand} {lo hi : Option Operand} (ho : o.op = .slice T x lo hi none) (hd : dOk n o.dst) (R : RelC W0 S F n L m s a w) (h : opE P H o.dst (.slice T x lo hi none) s K) : QS mf P W0 S F n K o a w := by
  have hx := R.ev x
  have h : sliceOp P H o.dst T x lo hi s K := h
  have key : ∀ (e sz by_ : Nat) (y : Org × List (List AV)) (av : AV), elTy P T = some (e, sz, by_) → s.sl sz av = some y → Rep (cx w S F L m s.σ) false (.read .ent) av (a.eval x) → ∀ l r : Int,
      ((lo = none ∧ l = 0) ∨ ∃ q, lo.map a.eval = some (.int q l)) → ((hi = none ∧ r = y.2.length) ∨ ∃ q, hi.map a.eval = some (.int q r)) → 0 ≤ l ∧ l ≤ r ∧ r ≤ y.2.length →
      ∃ A c, a.eval x = .slice A y.2.length c ∧ y.2.length ≤ c ∧ Shows (cx w S F L m s.σ) y.1 sz y.2 (.slice A y.2.length c) ∧ (∀ w', Gr mf w w' → (execOp a.eval o).run P w' = .ok (.value (sliced A l.toNat r.toNat c sz)) w') := fun e sz by_ y av ht hy hr l r hl hh hb => by
    have hS := R.sl hy hr
    obtain ⟨t, hu, hi', hs, _⟩ := elTy_run ht
    have hS' := hS
    obtain ⟨ha, A, c, he, h3, h4, h5⟩ := hS'
    refine ⟨A, c, he, h3, he ▸ hS, fun w' _ => ?_⟩
    have hrun := run_slice_bounds (P := P) hu hi' A y.2.length c h3 (lo := lo.map a.eval) (hi' := hi.map a.eval) (l := l) (h := r) (hl.imp (fun h => ⟨by rw [h.1]; rfl, h.2⟩) id) (hh.imp (fun h => ⟨by rw [h.1]; rfl, h.2⟩) id) hb.1 hb.2.1 hb.2.2 w'
    rw [hs] at hrun
    simp only [execOp, ho, he, Sem.run_bind, Option.map_none, hrun]
    rfl
  unfold sliceOp at h
  rcases onRef.elim h with ⟨id, hv, h1⟩ | ⟨b, hv, h1⟩ | h1
  · obtain ⟨⟨e, sz, by_⟩, ht, h2⟩ := onSome.elim h1
    rcases onOB.elim h2 with ⟨u, sz', els, hs, h3⟩ | ⟨_, _, _, h3⟩
    · obtain ⟨l, h4, hl⟩ := boundE.elim R h3
      obtain ⟨r, h5, hh⟩ := boundE.elim R h4
      obtain ⟨⟨hsz, hb⟩, h6⟩ := h5
      obtain ⟨d, hdst, h7⟩ := onSome.elim h6
      have hsz : sz' = sz := hsz
      subst hsz
      rw [hv] at hx
      obtain ⟨A, c, he, hc, hS, hrun⟩ := key e sz' by_ (.obj id, els) (.ref id) ht (by simp [St.sl, hs, rowOf, sel]) hx l r hl hh hb
      have hb' : l.toNat ≤ r.toNat ∧ r.toNat ≤ els.length := ⟨by omega, by omega⟩
      cases hH : (H d == 1) with
      | false =>
        rw [hH] at h7
        exact QS.of R hd hrun (x := .rd (.obj id) u sz' ((els.take r.toNat).drop l.toNat)) (Shows.rd (o := .obj id) (shows_sliced hS hb'.1 hb'.2)) h7
      | true =>
        rw [hH] at h7
        have hm : m id = .slice A els.length c := by rw [← show a.eval x = m id from hx.2.2.2, he]
        have hlen : ((els.take r.toNat).drop l.toNat).length = r.toNat - l.toNat := by rw [List.length_drop, List.length_take]; omega
        let m' : Id → Value := fun y => if y = id then sliced A l.toNat r.toNat c sz' else m y
        have k : Keep (cx w S F L m s.σ) (cx w S F L m' (updS (killS s.σ [id] [id]) id (.row u sz' ((els.take r.toNat).drop l.toNat)))) [id] [id] := by
          refine ⟨⟨fun _ h => ⟨h, rfl⟩, fun _ h => ⟨h, rfl⟩⟩, fun _ h => h, fun y hy hl => ⟨?_, ?_⟩, fun y hy hl b q hb => ⟨hb, rfl⟩⟩
          · have hne : y ≠ id := fun e => by subst e; rw [hit_self (by simp)] at hy; cases hy
            show (updS _ _ _ y).isSome = true
            have e1 : (y == id) = false := by simpa using hne
            unfold updS
            rw [e1]
            exact killS_isSome.2 ⟨hy, hl⟩
          · have hne : y ≠ id := fun e => by subst e; rw [hit_self (by simp)] at hy; cases hy
            exact if_neg hne
        have hob : RepOb (cx w S F L m' (updS (killS s.σ [id] [id]) id (.row u sz' ((els.take r.toNat).drop l.toNat)))) id (.row u sz' ((els.take r.toNat).drop l.toNat)) := by
          show Rep _ true (.own id) (.row u sz' ((els.take r.toNat).drop l.toNat)) (m' id)
          rw [show m' id = sliced A l.toNat r.toNat c sz' from if_pos rfl]
          obtain ⟨A2, c2, he2, hR⟩ := R.obj id _ hs
          rw [show (cx w S F L m s.σ).m id = m id from rfl, hm] at he2
          injection he2 with e1 _ e3
          subst e1; subst e3
          refine ⟨_, _, by rw [hlen]; rfl, ?_⟩
          rcases hR with ⟨rfl, rfl, rfl⟩ | ⟨g, off, arr, fr, q, rfl, hL, hh', h8, h9, h10, h11, hE⟩
          · left
            simp
          · right
            have hE' := RepEls.tr (C' := cx w S F L m' (updS (killS s.σ [id] [id]) id (.row u sz' ((els.take r.toNat).drop l.toNat)))) k.st (show Tr _ _ (.own id) (.own id) from fun b q hb => ⟨hb, rfl⟩) _ rfl (.inr rfl) ((hE.take r.toNat).drop l.toNat)
            by_cases hcl : c = l.toNat
            · refine ⟨g, off, arr, fr, q, by rw [if_pos hcl], hL, hh', by rw [hlen]; omega, ?_, fun i hi => h10 i ?_, by rw [hlen]; omega, ?_⟩
              · have : (c - l.toNat) * sz' ≤ c * sz' := Nat.mul_le_mul_right _ (by omega)
                omega
              · have : (c - l.toNat) * sz' ≤ c * sz' := Nat.mul_le_mul_right _ (by omega)
                omega
              · rw [List.eq_nil_of_length_eq_zero (show ((els.take r.toNat).drop l.toNat).length = 0 by rw [hlen]; omega)]
                trivial
            · have hmul : l.toNat * sz' + (c - l.toNat) * sz' = c * sz' := by rw [← Nat.add_mul]; congr 1; omega
              refine ⟨g, off + l.toNat * sz', arr, fr, _, by rw [if_neg hcl]; simp [add_none], hL, hh', by rw [hlen]; omega, by omega, fun i hi => ?_, by rw [hlen]; omega, hE'⟩
              have := h10 (l.toNat * sz' + i) (by omega)
              rwa [← Nat.add_assoc] at this
        have R' := R.upd1 (by simp) k hob R.lab R.below
        have e1 : updS (killS s.σ [id] [id]) id (.row u sz' ((els.take r.toNat).drop l.toNat)) id = some (.row u sz' ((els.take r.toNat).drop l.toNat)) := by simp [updS, sel]
        exact ⟨_, _, hrun, ⟨L, m', R'.put hd (x := .ref id) ⟨rfl, trivial, RelC.live e1, (if_pos rfl).symm⟩⟩, h7⟩
    · exact h3.elim
  · obtain ⟨_, ht, h1⟩ := onSome.elim h1
    have hu : P.underlying T = some .string := by
      unfold strTy at ht
      split at ht
      · assumption
      · cases ht
    obtain ⟨l, h4, hl⟩ := boundE.elim R h1
    obtain ⟨r, h5, hh⟩ := boundE.elim R h4
    obtain ⟨hb, h6⟩ := h5
    rw [hv] at hx
    refine QS.of R hd (v := .string (b.extract l.toNat r.toNat)) (fun w' _ => ?_) (rep_v trivial) h6
    have h0 : (0 : Int) ≤ r := by omega
    have hb2 := hb.2.2
    rcases hl with ⟨rfl, rfl⟩ | ⟨q, hl⟩ <;> rcases hh with ⟨rfl, rfl⟩ | ⟨q', hh⟩
    · simp [execOp, ho, hx.1, run_sliceAt_string _ _ _ _ _ _ hu, Instr.slice, run_underlying hu, Instr.sliceBounds]
    · simp [execOp, ho, hx.1, hh, run_sliceAt_string _ _ _ _ _ _ hu, Instr.slice, run_underlying hu, Instr.sliceBounds, run_sliceBound, h0, hb2]
    · simp [execOp, ho, hx.1, hl, run_sliceAt_string _ _ _ _ _ _ hu, Instr.slice, run_underlying hu, Instr.sliceBounds, run_sliceBound, hb.1, hb.2.1]
    · have e1 : ((r.toNat : Nat) : Int) = r := by omega
      simp [execOp, ho, hx.1, hl, hh, run_sliceAt_string _ _ _ _ _ _ hu, Instr.slice, run_underlying hu, Instr.sliceBounds, run_sliceBound, hb.1, hb.2.1, h0, hb2, e1]
  · obtain ⟨⟨e, sz, by_⟩, ht, h2⟩ := onSome.elim h1
    obtain ⟨y, hy, h3⟩ := onSome.elim h2
    obtain ⟨l, h4, hl⟩ := boundE.elim R h3
    obtain ⟨r, h5, hh⟩ := boundE.elim R h4
    obtain ⟨hb, h6⟩ := h5
    obtain ⟨A, c, he, hc, hS, hrun⟩ := key e sz by_ y _ ht hy hx l r hl hh hb
    refine QS.of R hd hrun (x := slR (s.ev x) (.rd y.1.base e sz ((y.2.take r.toNat).drop l.toNat))) ?_ h6
    have gen := Shows.rd (e := e) (shows_sliced hS (l := l.toNat) (r := r.toNat) (by omega) (by omega))
    generalize hav : s.ev x = av at hy hx gen
    cases av with
    | v u =>
      have hy : nilV u = some y := hy
      unfold nilV at hy
      split at hy
      · obtain rfl := Option.some.inj hy
        rw [hx.1] at he
        injection he with e1 e2 e3
        subst e1; subst e3
        have e4 : r.toNat = 0 := by have := hb.2.2; simp at this; omega
        have e5 : l.toNat = 0 := by have := hb.2.2; simp at this; omega
        exact ⟨by rw [e4, e5]; rfl, trivial⟩
      · cases hy
    | _ => exact gen
theorem strTy_run {T : TypeId} {x : Unit} (h : strTy P T = some x) : P.underlying T = some .string := by
  unfold strTy at h
  split at h
  · assumption
  · cases h
theorem cvTy_int {src dst : TypeId} {k : IntKind} (h : cvTy P src dst = some (.int k)) : (P.underlying src).isSome = true ∧ P.underlying dst = some (.int k) := by
  unfold cvTy at h
  split at h
  · rename_i e1 e2
    injection h with h; injection h with h; subst h
    exact ⟨by rw [e1]; rfl, e2⟩
  · split at h <;> simp at h
  · simp at h
  · simp at h
theorem cvTy_bytes {src dst : TypeId} (h : cvTy P src dst = some .bytes) : ∃ e, P.underlying src = some (.slice e) ∧ P.underlying e = some (.int .u8) ∧ P.underlying dst = some .string := by
  unfold cvTy at h
  split at h
  · simp at h
  · rename_i e e1 e2
    split at h
    · rename_i e3; exact ⟨e, e1, e3, e2⟩
    · simp at h
  · simp at h
  · simp at h
theorem cvTy_str {src dst : TypeId} (h : cvTy P src dst = some .str) : P.underlying src = some .string ∧ P.underlying dst = some .string := by
  unfold cvTy at h
  split at h
  · simp at h
  · split at h <;> simp at h
  · rename_i e1 e2; exact ⟨e1, e2⟩
  · simp at h
theorem repEls_bytes {C : Cx} {md : Md} {b : Nat} : ∀ {bs : List UInt8} {off q j : Nat}, RepEls C md b off q 1 (bytesA bs) → (hj : j < bs.length) → C.w.cell? ⟨b, off + j, none⟩ = some (.int .u8 (bs[j].toNat : Int)) := by
  intro bs off q j h hj
  obtain ⟨_, hC⟩ := h.at_ (i := j) (cs := byteC bs[j]) (by simp [bytesA, hj])
  obtain ⟨y, h1, _, h3⟩ := hC.at_ (k := 0) rfl
  rw [Nat.mul_one, Nat.add_zero] at h1
  rw [h1, h3.1]
theorem q_convert {o : Oper} {src dt : TypeId} {x : Operand} (ho : o.op = .convert src dt x) (hd : dOk n o.dst) (R : RelC W0 S F n L m s a w) (h : opE P H o.dst (.convert src dt x) s K) : QS false P W0 S F n K o a w := by
  have hx := R.ev x
  obtain ⟨c, hc, h1⟩ := onSome.elim (show onSome _ _ from h)
  cases c with
  | int k =>
    obtain ⟨q, i, hv, h2⟩ := onInt.elim h1
    rw [hv] at hx
    obtain ⟨h3, h4⟩ := cvTy_int hc
    have hk : P.intKind dt = k := by simp [Program.intKind, h4]
    refine QS.of R hd (v := .int k (k.wrap i)) (fun w' _ => ?_) (rep_v trivial) h2
    have := run_convert_int (P := P) w' src dt q i h3 (by rw [hk]; exact h4)
    rw [hk] at this
    simp [execOp, ho, hx.1, this]
  | bytes =>
    obtain ⟨y, hy, bs, hbs, h2⟩ := onSome.elim h1
    obtain ⟨e, g1, g2, g3⟩ := cvTy_bytes hc
    obtain ⟨_, A, c, he, _, _, hE⟩ := R.sl hy hx
    refine QS.of R hd (v := .string ⟨bs.toArray⟩) (fun w' hw' => ?_) (rep_v trivial) h2
    rw [hbs] at hE he
    rcases hE with h0 | ⟨b, off, rfl, _, hE⟩
    · have hb0 : bs = [] := by cases bs with | nil => rfl | cons _ _ => simp [bytesA] at h0
      subst hb0
      cases A with
      | none =>
        have := run_convert_bytes_nil (P := P) (w := w') src e g1 g2 (bytesA []).length c dt g3
        simp only [execOp, ho, he, Sem.run_bind, this]; rfl
      | some a' =>
        have := run_convert_bytes_back (P := P) w' src dt e a' c [] g1 g2 g3 (fun j hj => by simp at hj)
        simp only [execOp, ho, he, Sem.run_bind, show (bytesA []).length = ([] : List UInt8).length from rfl, this]; rfl
    · have := run_convert_bytes_back (P := P) w' src dt e ⟨b, off, none⟩ c bs g1 g2 g3 (fun j hj => by rw [add_none]; exact (hw'.resolve_left (by simp)).cell (repEls_bytes hE hj))
      simp only [execOp, ho, he, Sem.run_bind, show (bytesA bs).length = bs.length by simp [bytesA], this]; rfl
  | str =>
    obtain ⟨g1, g2⟩ := cvTy_str hc
    rcases onRef.elim h1 with ⟨id, hv, h2⟩ | ⟨b, hv, h2⟩ | h2
    · exact h2.elim
    · rw [hv] at hx
      refine QS.of R hd (v := .string b) (fun w' _ => ?_) (rep_v trivial) h2
      simp [execOp, ho, hx.1, convert, run_underlying g1, run_underlying g2]
    · exact h2.elim
theorem mapTy_run {T : TypeId} {d : TypeDesc} {e : Nat} (h : mapTy P T = some (d, e)) : ∃ k, P.underlying T = some (.map k e) ∧ P.underlying k = some d := by
  unfold mapTy at h
  split at h
  · rename_i k e' hu
    obtain ⟨d', hd, h⟩ := Option.map_eq_some_iff.1 h
    simp only [Prod.mk.injEq] at h
    obtain ⟨rfl, rfl⟩ := h
    exact ⟨k, hu, hd⟩
  · cases h
theorem q_len {o : Oper} {x : Operand} {T : TypeId} (ho : o.op = .call ⟨.builtin .len, ⟨[x]⟩, ⟨[T]⟩⟩) (hd : dOk n o.dst) (R : RelC W0 S F n L m s a w) (h : opE P H o.dst (.call ⟨.builtin .len, ⟨[x]⟩, ⟨[T]⟩⟩) s K) : QS false P W0 S F n K o a w := by
  have hx := R.ev x
  have sl : ∀ (A : Option Addr) (l c : Nat) (e sz by_ : Nat), elTy P T = some (e, sz, by_) → a.eval x = .slice A l c → ∀ w', Gr false w w' → (execOp a.eval o).run P w' = .ok (.value (.int .i64 l)) w' := fun A l c e sz by_ ht he w' _ => by
    obtain ⟨i, hu, _⟩ := elTy_run ht
    have hel : P.elem T = e := by simp [Program.elem, hu]
    simp [execOp, ho, resolve, invoke, builtin, he, run_len_slice w' T _ A l c (by rw [hel]; exact hu), goInt]
  rcases onRef.elim (show onRef _ _ _ _ from h) with ⟨id, hv, h1⟩ | ⟨b, hv, h1⟩ | h1
  · rcases onRL.elim h1 with ⟨e', sz', els, hs, h2⟩ | ⟨d', e', l, hs, h2⟩
    · obtain ⟨⟨e, sz, by_⟩, ht, h2⟩ := onSome.elim h2
      rw [hv] at hx
      obtain ⟨_, A, c, he, _⟩ := R.row hs
      exact QS.of R hd (sl A els.length c e sz by_ ht (hx.2.2.2.trans he)) (rep_v trivial) h2
    · obtain ⟨⟨d, e⟩, ht, h2⟩ := onSome.elim h2
      obtain ⟨k, hT, _⟩ := mapTy_run ht
      rw [hv] at hx
      obtain ⟨g, es, clock, g1, g2, g3, g4, _⟩ := R.obj id _ hs
      have g1' : m id = .map (some g) := g1
      have he : a.eval x = .map (some g) := hx.2.2.2.trans g1'
      have hgl := (R.lab g id g2).2
      refine QS.of R hd (v := .int .i64 l.length) (fun w' hw' => ?_) (rep_v trivial) h2
      have hb : w'.heap[g]? = some (.map es clock) := by
        have := (hw'.resolve_left (by simp)).2 g hgl
        rw [this]; exact g3
      have hl : es.size = l.length := by rw [← g4]; simp
      have h1 : P.mapKeyOf T = k := by simp [Program.mapKeyOf, hT]
      have h2 : P.mapElemOf T = e := by simp [Program.mapElemOf, hT]
      simp [execOp, ho, resolve, invoke, builtin, he, run_len_map w' T _ g es clock (by rw [h1, h2]; exact hT) hb, goInt, hl]
  · obtain ⟨_, ht, h1⟩ := onSome.elim h1
    rw [hv] at hx
    refine QS.of R hd (v := .int .i64 b.size) (fun w' _ => ?_) (rep_v trivial) h1
    simp [execOp, ho, resolve, invoke, builtin, hx.1, run_len_string w' T _ b (strTy_run ht), goInt]
  · obtain ⟨⟨e, sz, by_⟩, ht, h2⟩ := onSome.elim h1
    obtain ⟨y, hy, h3⟩ := onSome.elim h2
    obtain ⟨_, A, c, he, _⟩ := R.sl hy hx
    exact QS.of R hd (sl A _ c e sz by_ ht he) (rep_v trivial) h3
theorem q_cap {mf : Bool} {o : Oper} {x : Operand} {T : TypeId} (ho : o.op = .call ⟨.builtin .cap, ⟨[x]⟩, ⟨[T]⟩⟩) (hd : dOk n o.dst) (R : RelC W0 S F n L m s a w) (h : opE P H o.dst (.call ⟨.builtin .cap, ⟨[x]⟩, ⟨[T]⟩⟩) s K) : QS mf P W0 S F n K o a w := by
  have hx := R.ev x
  obtain ⟨⟨e, sz, by_⟩, ht, h1⟩ := onSome.elim (show onSome _ _ from h)
  obtain ⟨hv, h2⟩ := onNil.elim h1
  rw [hv] at hx
  obtain ⟨i, hu, _⟩ := elTy_run ht
  have hel : P.elem T = e := by simp [Program.elem, hu]
  refine QS.of R hd (v := .int .i64 0) (fun w' _ => ?_) (rep_v trivial) h2
  simp [execOp, ho, resolve, invoke, builtin, hx.1, run_cap_slice w' T _ none 0 0 (by rw [hel]; exact hu), goInt]
theorem zeroV_run {e : TypeId} {z : Value} (h : zeroV P e = some z) (w : World) : (zeroValue e).run P w = .ok z w ∧ one z := by
  unfold zeroV at h
  split at h
  · rename_i i hi
    split at h
    · rename_i v hv
      split at h
      · rename_i hc
        obtain rfl := Option.some.inj h
        exact ⟨by simp [zeroValue, typeInfo, hi, hv], oneB_iff.1 hc⟩
      · cases h
    · cases h
  · cases h
theorem mget_one : ∀ {es : List MapEntry} {k v : Value}, (∀ x ∈ es, one x.val) → mget (pairsOf es) k = some v → one v
  | [], k, v, _, h => by cases h
  | e :: es, k, v, h, hg => by
    have hg : sel (kEq e.key k) (some e.val) (mget (pairsOf es) k) = some v := hg
    cases hk : kEq e.key k with
    | true => rw [hk] at hg; obtain rfl := Option.some.inj hg; exact h e (.head _)
    | false => rw [hk] at hg; exact mget_one (fun x hx => h x (.tail _ hx)) hg
theorem q_lookup {o : Oper} {T : TypeId} {x i : Operand} {c : Bool} (ho : o.op = .lookup T x i c) (hd : dOk n o.dst) (R : RelC W0 S F n L m s a w) (h : opE P H o.dst (.lookup T x i c) s K) : QS false P W0 S F n K o a w := by
  have hx := R.ev x
  have hi := R.ev i
  obtain ⟨⟨d, e⟩, ht, h1⟩ := onSome.elim (show onSome _ _ from h)
  obtain ⟨z, hz, h2⟩ := onSome.elim h1
  rcases onRef.elim h2 with ⟨id, hv, h3⟩ | ⟨b, hv, h3⟩ | h3
  · obtain ⟨d', e', l, hs, h4⟩ := onMp.elim h3
    obtain ⟨u, hu, h5⟩ := onV.elim h4
    obtain ⟨⟨rfl, hk⟩, h6⟩ := h5
    obtain ⟨k, hT, hkd⟩ := mapTy_run ht
    obtain ⟨g, es, clock, g1, g2, g3, g4, g5⟩ := R.obj id _ hs
    rw [hv] at hx
    rw [hu] at hi
    have g1' : m id = .map (some g) := g1
    have he : a.eval x = .map (some g) := hx.2.2.2.trans g1'
    have hl : pairsOf es.toList = l := g4
    have hzo := (zeroV_run hz w).2
    have hone : one ((mget l u).getD z) := by
      cases hg : mget l u with
      | none => exact hzo
      | some v => exact mget_one (fun x hx => (g5 x hx).2) (by rw [hl]; exact hg)
    have hlab := R.lab g id g2
    have hrun : ∀ w', Gr false w w' → (execOp a.eval o).run P w' = .ok (.value (if c then .tuple #[(mget l u).getD z, .bool (mget l u).isSome] else (mget l u).getD z)) w' := fun w' hw' => by
      have hb : w'.heap[g]? = some (.map es clock) := by
        have := (hw'.resolve_left (by simp)).2 g hlab.2
        rw [this]; exact g3
      have := run_lookup_own hT hkd hb (fun x hx => (g5 x hx).1) hk (zeroV_run hz w').1 c
      rw [hl] at this
      simp [execOp, ho, he, hi.1, this]
    cases c with
    | true => exact QS.of R hd hrun (x := mapAns true z l u) ⟨_, rfl, _, _, rfl, rep_v hone, _, _, rfl, rep_v trivial, rfl⟩ h6
    | false => exact QS.of R hd hrun (x := mapAns false z l u) (rep_v hone) h6
  · exact h3.elim
  · exact h3.elim
theorem q_min {mf : Bool} {o : Oper} {x y : Operand} {ts : Array TypeId} (ho : o.op = .call ⟨.builtin .min, ⟨[x, y]⟩, ts⟩) (hd : dOk n o.dst) (R : RelC W0 S F n L m s a w) (h : opE P H o.dst (.call ⟨.builtin .min, ⟨[x, y]⟩, ts⟩) s K) : QS mf P W0 S F n K o a w := by
  have hx := R.ev x
  have hy := R.ev y
  have h : binE .lss (s.ev y) (s.ev x) (fun u => match u with | .bool t => sel t (K (s.put o.dst (s.ev y))) (K (s.put o.dst (s.ev x))) | _ => False) := h
  unfold binE at h
  split at h
  · rename_i k i k' j e1 e2
    have e1' := e1
    have e2' := e2
    rw [e1] at hy
    rw [e2] at hx
    obtain ⟨rfl, h⟩ := h
    have hrun : ∀ w', Gr mf w w' → (execOp a.eval o).run P w' = .ok (.value (.int k (if i < j then i else j))) w' := fun w' _ => by
      simp [execOp, ho, resolve, invoke, builtin, hx.1, hy.1, run_min_int2]
    by_cases hlt : i < j
    · simp only [if_pos hlt] at hrun
      simp only [hlt, decide_true, sel] at h
      exact QS.of R hd hrun (x := s.ev y) (by rw [e1]; exact rep_v trivial) h
    · simp only [if_neg hlt] at hrun
      simp only [hlt, decide_false, sel] at h
      exact QS.of R hd hrun (x := s.ev x) (by rw [e2]; exact rep_v trivial) h
  · exact h.elim
  · exact h.elim
end
end Go.Ev
set_option linter.unusedVariables false
set_option linter.unusedSimpArgs false
namespace Go.Ev
open Go Go.RowKit
structure Wrote (w w' : World) (g : Nat) : Prop where
  os : w'.os = w.os
  tape : w'.tape = w.tape
  output : w'.output = w.output
  size : w.heap.size ≤ w'.heap.size
  other : ∀ b, b ≠ g → b < w.heap.size → w'.heap[b]? = w.heap[b]?
  lt : g < w'.heap.size
theorem Wrote.below {B : Bs} {w w' : World} {g : Nat} (h : Wrote w w' g) (hb : B.bel w) (hg : B.ok g) : B.bel w' :=
  ⟨h.os.trans hb.os, h.tape.trans hb.tape, h.output.trans hb.output, Nat.le_trans hb.size h.size, fun k hk => (h.other k (fun e => hk (e ▸ hg)) (Nat.lt_of_lt_of_le (Bs.lt hk) hb.size)).trans (hb.block k hk)⟩
theorem setCells_other (b : Nat) : ∀ (vs : List Value) (o : Nat) (w : World) (k : Nat), k ≠ b → (w.setCells b o vs).heap[k]? = w.heap[k]?
  | [], _, _, _, _ => rfl
  | v :: r, o, w, k, h => by
    rw [World.setCells, setCells_other b r (o + 1) _ k h]
    exact Below.heap_setCell w ⟨b, o, none⟩ v k h
theorem setCells_same (b : Nat) : ∀ (vs : List Value) (o : Nat) (w : World) (arr : Array Value) (e : TypeId) (fr : Nat × Nat), w.heap[b]? = some (.cells arr e fr) → ∃ arr', (w.setCells b o vs).heap[b]? = some (.cells arr' e fr) ∧ arr'.size = arr.size
  | [], _, _, arr, _, _, h => ⟨arr, h, rfl⟩
  | v :: r, o, w, arr, e, fr, h => by
    have h1 : (w.setCell ⟨b, o, none⟩ v).heap[b]? = some (.cells (arr.setIfInBounds o v) e fr) := by
      simp only [World.setCell, Array.getElem?_modify, if_true, h, Option.map_some]
      simp
    obtain ⟨arr', h2, h3⟩ := setCells_same b r (o + 1) _ _ e fr h1
    exact ⟨arr', h2, h3.trans (by simp)⟩
theorem setCells_world (b : Nat) : ∀ (vs : List Value) (o : Nat) (w : World), (w.setCells b o vs).os = w.os ∧ (w.setCells b o vs).tape = w.tape ∧ (w.setCells b o vs).output = w.output ∧ (w.setCells b o vs).heap.size = w.heap.size
  | [], _, _ => ⟨rfl, rfl, rfl, rfl⟩
  | v :: r, o, w => by
    obtain ⟨h1, h2, h3, h4⟩ := setCells_world b r (o + 1) (w.setCell ⟨b, o, none⟩ v)
    exact ⟨h1, h2, h3, h4.trans (World.size_setCell ..)⟩
theorem wrote_setCells {w : World} {b : Nat} (h : b < w.heap.size) (vs : List Value) (o : Nat) : Wrote w (w.setCells b o vs) b := by
  obtain ⟨h1, h2, h3, h4⟩ := setCells_world b vs o w
  exact ⟨h1, h2, h3, by omega, fun k hk _ => setCells_other b vs o w k hk, by omega⟩
theorem wrote_alloc (w : World) (o : Obj) : Wrote w (w.alloc o) w.heap.size := ⟨rfl, rfl, rfl, by simp, fun k _ hk => Below.heap_alloc w o k hk, by simp⟩
theorem wrote_drew_alloc (w : World) (o : Obj) : Wrote w (w.drew.alloc o) w.heap.size := ⟨rfl, rfl, rfl, by simp, fun k _ hk => Below.heap_alloc w.drew o k hk, by simp⟩
theorem alloc_heap (w : World) (o : Obj) : (w.alloc o).heap[w.heap.size]? = some o := by
  show (w.heap.push o)[w.heap.size]? = _
  simp
theorem RepCs.of {C : Cx} {cl : Bool} {md : Md} {b : Nat} : ∀ {cs : List AV} {off q : Nat}, (∀ k c, cs[k]? = some c → ∃ y, C.w.cell? ⟨b, off + k, none⟩ = some y ∧ one y ∧ Rep C cl (md.sub (q + k)) c y) → RepCs C cl md b off q cs
  | [], _, _, _ => trivial
  | c :: cs, off, q, h => ⟨by simpa using h 0 c (by simp), RepCs.of (cs := cs) fun k c' hc => by
      have := h (k + 1) c' (by simpa using hc)
      rwa [show off + 1 + k = off + (k + 1) by omega, show q + 1 + k = q + (k + 1) by omega]⟩
theorem RepEls.of {C : Cx} {md : Md} {b sz : Nat} : ∀ {els : List (List AV)} {off q : Nat}, (∀ i cs, els[i]? = some cs → cs.length = sz ∧ RepCs C true md b (off + i * sz) (q + i * sz) cs) → RepEls C md b off q sz els
  | [], _, _, _ => trivial
  | c :: cs, off, q, h => ⟨(h 0 c (by simp)).1, by simpa using (h 0 c (by simp)).2, RepEls.of (els := cs) fun i c' hc => by
      have := h (i + 1) c' (by simpa using hc)
      rw [show (i + 1) * sz = sz + i * sz by rw [Nat.add_mul, Nat.one_mul, Nat.add_comm]] at this
      rwa [Nat.add_assoc, Nat.add_assoc]⟩
section
variable {P : Program} {H : Nat → Nat} {W0 : Bs} {S F : Nat → Prop} {n : Nat} {L : Nat → Option Id} {m : Id → Value} {s : St} {a : Act} {w : World} {K : St → Prop}
def newL (L : Nat → Option Id) (ρ : Id → Id) (g : Nat) (id : Id) : Nat → Option Id := fun b => if b = g then some id else (L b).map ρ
def newM (m : Id → Value) (id : Id) (hdr : Value) : Id → Value := fun y => if y = id then hdr else m y
theorem keep_wrote (R : RelC W0 S F n L m s a w) {I J : List Id} {id : Id} {ob : OB} {w' : World} {g : Nat} (hw : Wrote w w' g) (hsub : ∀ y, hit J y = false → hit I y = false) (hid : id ∈ J)
    {ρ : Id → Id} (hρ : ∀ y r, hit J y = false → ρ (y ++ r) = y ++ r) (hg : ∀ p, L g = some p → p = id) (hg0 : W0.ok g) {hdr : Value}
    (hkeep : ∀ y, hit I y = false → (s.σ y).isSome = true → hit J y = true → y = id ∧ m id = hdr) :
    Keep (cx w S F L m s.σ) (cx w' S F (newL L ρ g id) (newM m id hdr) (updS (killS s.σ I J) id ob)) I J := by
  have hold : ∀ b, S b ∨ F b → w'.heap[b]? = w.heap[b]? := fun b hb => by
    have h1 := R.old b hb
    exact hw.other b (fun e => h1 (e ▸ hg0)) (Nat.lt_of_lt_of_le (Bs.lt h1) R.below.size)
  refine ⟨⟨fun b hb => ⟨hb, hold b (.inl hb)⟩, fun b hb => ⟨hb, hold b (.inr hb)⟩⟩, hsub, fun y hy hl => ?_, fun y hy hl b q hb => ?_⟩
  · by_cases hj : hit J y = true
    · obtain ⟨rfl, hm⟩ := hkeep y hy hl hj
      refine ⟨?_, ?_⟩
      · show (updS (killS s.σ I J) y ob y).isSome = true
        simp [updS, sel]
      · show newM m y hdr y = m y
        simp [newM, hm]
    · have hj : hit J y = false := by simpa using hj
      have hne : y ≠ id := fun e => by subst e; rw [hit_self hid] at hj; cases hj
      refine ⟨?_, if_neg hne⟩
      show (updS (killS s.σ I J) id ob y).isSome = true
      have e1 : (y == id) = false := by simpa using hne
      unfold updS
      rw [e1]
      exact killS_isSome.2 ⟨hj, hl⟩
  · have hb' : L b = some (y ++ q) := hb
    have hbg : b ≠ g := fun e => by
      subst e
      have h1 : cmp id y = true := cmp_of_append (p := id) (r := []) (q := y) (r' := q) (by simpa using (hg _ hb').symm)
      rw [hit_mem hid hy] at h1
      cases h1
    have := R.lab b _ hb'
    refine ⟨?_, hw.other b hbg this.2⟩
    show newL L ρ g id b = some (y ++ q)
    rw [newL, if_neg hbg, hb', Option.map_some, hρ y q hy]
theorem RelC.wrote (R : RelC W0 S F n L m s a w) {I J : List Id} {id : Id} {ob : OB} {w' : World} {g : Nat} (hw : Wrote w w' g) (hid : id ∈ J) (hg0 : W0.ok g) {ρ : Id → Id} {hdr : Value}
    (k : Keep (cx w S F L m s.σ) (cx w' S F (newL L ρ g id) (newM m id hdr) (updS (killS s.σ I J) id ob)) I J)
    (hob : RepOb (cx w' S F (newL L ρ g id) (newM m id hdr) (updS (killS s.σ I J) id ob)) id ob) : RelC W0 S F n (newL L ρ g id) (newM m id hdr) ((s.chg I J).obj id ob) a w' := by
  refine R.upd1 hid k hob (fun b p hb => ?_) (hw.below R.below hg0)
  unfold newL at hb
  split at hb
  · rename_i e; subst e; exact ⟨hg0, hw.lt⟩
  · obtain ⟨p', hp', _⟩ := Option.map_eq_some_iff.1 hb
    have := R.lab b p' hp'
    exact ⟨this.1, Nat.lt_of_lt_of_le this.2 hw.size⟩
theorem tr_moved' (R : RelC W0 S F n L m s a w) {w' : World} {g : Nat} (hw : Wrote w w' g) {σ' : Id → Option OB} {m' : Id → Value} {id i t : Id} {ρ : Id → Id} (hρ : ∀ r, ρ (i ++ r) = t ++ r) (hi : ∀ b r, L b = some (i ++ r) → b ≠ g) :
    Tr (cx w S F L m s.σ) (cx w' S F (newL L ρ g id) m' σ') (.own i) (.own t) := fun b q hb => by
  have hb' : L b = some (i ++ q) := hb
  have hbg : b ≠ g := hi b q hb'
  have := R.lab b _ hb'
  refine ⟨?_, hw.other b hbg this.2⟩
  show newL L ρ g id b = some (t ++ q)
  rw [newL, if_neg hbg, hb', Option.map_some, hρ q]
theorem tr_moved (R : RelC W0 S F n L m s a w) {w' : World} {g : Nat} (hw : Wrote w w' g) {σ' : Id → Option OB} {m' : Id → Value} {id i t : Id} {ρ : Id → Id} (hg : ∀ p, L g = some p → p = id) (hρ : ∀ r, ρ (i ++ r) = t ++ r) (hi : ∀ r, id ≠ i ++ r) :
    Tr (cx w S F L m s.σ) (cx w' S F (newL L ρ g id) m' σ') (.own i) (.own t) :=
  tr_moved' R hw hρ fun _ r hb e => hi r (by subst e; exact (hg _ hb).symm)
theorem ne_append {i id : Id} (h : cmp i id = false) : ∀ r, id ≠ i ++ r := fun r e => by
  have : cmp i id = true := cmp_of_append (p := i) (r := r) (q := id) (r' := []) (by simpa using e.symm)
  rw [h] at this; cases this
def mvL : List (Id × Id) → Id → Id
  | [], p => p
  | x :: mv, p => if x.1.isPrefixOf p then x.2 ++ p.drop x.1.length else mvL mv p
theorem mvL_out : ∀ {mv : List (Id × Id)} {y : Id}, (∀ x ∈ mv, cmp x.1 y = false) → ∀ r, mvL mv (y ++ r) = y ++ r
  | [], _, _, _ => rfl
  | x :: mv, y, h, r => by
    have h1 : x.1.isPrefixOf (y ++ r) = false := by
      cases hp : x.1.isPrefixOf (y ++ r) with
      | false => rfl
      | true =>
        obtain ⟨z, hz⟩ := List.isPrefixOf_iff_prefix.1 hp
        have := cmp_of_append hz
        rw [h x (by simp)] at this; cases this
    rw [mvL, h1]
    exact mvL_out (fun z hz => h z (by simp [hz])) r
theorem mvL_in : ∀ {mv : List (Id × Id)}, indep (mv.map (·.1)) = true → ∀ {x : Id × Id}, x ∈ mv → ∀ r, mvL mv (x.1 ++ r) = x.2 ++ r
  | [], _, _, hx, _ => by simp at hx
  | z :: mv, hi, x, hx, r => by
    simp only [List.map_cons, indep, Bool.and_eq_true, Bool.not_eq_true'] at hi
    rw [mvL]
    rcases List.mem_cons.1 hx with rfl | hx
    · rw [if_pos (List.isPrefixOf_iff_prefix.2 (List.prefix_append _ _))]
      simp
    · have h1 : z.1.isPrefixOf (x.1 ++ r) = false := by
        cases hp : z.1.isPrefixOf (x.1 ++ r) with
        | false => rfl
        | true =>
          obtain ⟨z', hz⟩ := List.isPrefixOf_iff_prefix.1 hp
          have := cmp_of_append hz
          rw [cmp_symm, hit_mem (List.mem_map.2 ⟨x, hx, rfl⟩) hi.1] at this; cases this
      rw [h1]
      exact mvL_in hi.2 hx r
def mvC (t : Id) : AV → List (Id × Id)
  | .ref i => [(i, t)]
  | _ => []
def mvCs (p : Id) : Nat → List AV → List (Id × Id)
  | _, [] => []
  | q, c :: cs => mvC (p ++ [q]) c ++ mvCs p (q + 1) cs
mutual
/-- What shows nothing of the call's own stands anywhere. -/
theorem clB_tr {C C' : Cx} (hs : Stays C C') {md : Md} {cl : Bool} : ∀ {md0 : Md} {a : AV} {x : Value}, a.clB = true → Rep C cl md0 a x → Rep C' true md a x
  | _, .any, _, h, _ => by cases h
  | _, .v u, _, _, h => h
  | _, .row .., _, h, _ => by cases h
  | _, .rd o e sz els, _, h, hr => by
    have ho : isObj o = false := by simpa [AV.clB] using h
    obtain ⟨_, ⟨ha, _⟩, A, c, rfl, h1, h2, h3⟩ := hr
    have hm' := hs.org o ho
    refine ⟨by simp [ho], ⟨hm'.1 ha, Cx.hdr_of ho⟩, A, c, rfl, h1, h2, ?_⟩
    rcases h3 with h3 | ⟨b, off, rfl, hb, hr⟩
    · exact .inl h3
    · have := hm'.2 b hb
      exact .inr ⟨b, off, rfl, this.1, RepEls.tr hs hm' els this.2 (.inr rfl) hr⟩
  | _, .rp .., _, h, _ => by cases h
  | _, .ref .., _, h, _ => by cases h
  | _, .ptr .., _, h, _ => by cases h
  | _, .tup .., _, h, _ => by cases h
  | _, .bx .., _, h, _ => by cases h
  | _, .agg cs, _, h, hr => by
    obtain ⟨vs, rfl, hr⟩ := hr
    exact ⟨vs, rfl, clBL_tr hs (by simpa [AV.clB] using h) hr⟩
  | _, .ifc t a, _, h, hr => by
    obtain ⟨v, rfl, hr⟩ := hr
    exact ⟨v, rfl, clB_tr hs (by simpa [AV.clB] using h) hr⟩
  | _, .fn f cs, _, h, hr => by
    obtain ⟨vs, rfl, hr⟩ := hr
    exact ⟨vs, rfl, clBL_tr hs (by simpa [AV.clB] using h) hr⟩
theorem clBL_tr {C C' : Cx} (hs : Stays C C') {md : Md} {cl : Bool} : ∀ {md0 : Md} {cs : List AV} {vs : List Value} {q q' : Nat}, clBL cs = true → RepVs C cl md0 q cs vs → RepVs C' true md q' cs vs
  | _, [], _, _, _, _, h => h
  | _, c :: cs, _, _, q', h, hr => by
    obtain ⟨y, ys, rfl, h1, h2⟩ := hr
    simp only [clBL, Bool.and_eq_true] at h
    exact ⟨y, ys, rfl, clB_tr hs h.1 h1, clBL_tr hs h.2 h2⟩
end
theorem clC_mv {c v : AV} {I : List Id} (h : s.clC c = some (v, I)) (t : Id) : (mvC t c).map (·.1) = I := by
  cases c with
  | v u => simp only [St.clC] at h; have := sel_eq_some h; simp at this; simp [mvC, ← this.2.2]
  | rd o e sz els =>
    simp only [St.clC] at h
    cases ho : isObj o <;> rw [ho] at h
    · simp [sel] at h; simp [mvC, ← h.2]
    · cases h
  | ref id =>
    simp only [St.clC, ownRow] at h
    split at h
    · simp at h; simp [mvC, ← h.2]
    · cases h
  | ifc t a => have := (sel_eq_some (show sel _ _ _ = _ from h)).2; simp at this; simp [mvC, ← this.2]
  | fn f cs => have := (sel_eq_some (show sel _ _ _ = _ from h)).2; simp at this; simp [mvC, ← this.2]
  | _ => cases h
theorem clL_mv : ∀ {cs vs : List AV} {I : List Id}, s.clL cs = some (vs, I) → ∀ (p : Id) (q : Nat), (mvCs p q cs).map (·.1) = I
  | [], vs, I, h, p, q => by simp [St.clL] at h; simp [mvCs, h.2]
  | c :: cs, vs, I, h, p, q => by
    simp only [St.clL] at h
    obtain ⟨x, hx, h⟩ := bindO_eq h
    obtain ⟨y, hy, h⟩ := bindO_eq h
    simp only [Option.some.injEq, Prod.mk.injEq] at h
    rw [mvCs, List.map_append, clC_mv (show s.clC c = some (x.1, x.2) from hx), clL_mv (show s.clL cs = some (y.1, y.2) from hy)]
    exact h.2
theorem clC_sound (R : RelC W0 S F n L m s a w) {C' : Cx} (hs : Stays (cx w S F L m s.σ) C') {c v : AV} {I : List Id} (h : s.clC c = some (v, I)) {y : Value} (hr : Rep (cx w S F L m s.σ) false (.read .ent) c y) {t : Id}
    (htr : ∀ x ∈ mvC t c, Tr (cx w S F L m s.σ) C' (.own x.1) (.own x.2)) : Rep C' true (.own t) v y ∧ one y := by
  cases c with
  | v u =>
    simp only [St.clC] at h
    obtain ⟨h1, h2⟩ := sel_eq_some h
    simp only [Prod.mk.injEq] at h2
    rw [← h2.1, hr.1]
    exact ⟨rep_v (oneB_iff.1 h1), oneB_iff.1 h1⟩
  | rd o e sz els =>
    simp only [St.clC] at h
    cases ho : isObj o <;> rw [ho] at h
    · simp only [sel, Option.some.injEq, Prod.mk.injEq] at h
      rw [← h.1]
      obtain ⟨_, ⟨ha, _⟩, A, c, rfl, h1, h2, h3⟩ := hr
      have hm' := hs.org o ho
      refine ⟨⟨by simp [ho], ⟨hm'.1 ha, Cx.hdr_of ho⟩, A, c, rfl, h1, h2, ?_⟩, trivial⟩
      rcases h3 with h3 | ⟨b, off, rfl, hb, hr⟩
      · exact .inl h3
      · have := hm'.2 b hb
        exact .inr ⟨b, off, rfl, this.1, RepEls.tr hs hm' els this.2 (.inr rfl) hr⟩
    · cases h
  | ref id =>
    simp only [St.clC, ownRow] at h
    split at h
    · rename_i e sz els hob
      simp only [Option.some.injEq, Prod.mk.injEq] at h
      rw [← h.1]
      have h1 := R.obj id _ hob
      obtain ⟨_, h2, _, h3⟩ := hr
      rw [h3]
      exact ⟨Rep.tr hs (htr (id, t) (by simp [mvC])) _ _ h1, h3 ▸ h2⟩
    · cases h
  | ifc t' a =>
    obtain ⟨h1, h2⟩ := sel_eq_some (show sel _ _ _ = _ from h)
    simp only [Prod.mk.injEq] at h2
    rw [← h2.1]
    have h3 := clB_tr hs (md := .own t) (a := .ifc t' a) (by simpa [AV.clB] using h1) hr
    exact ⟨h3, by obtain ⟨v, rfl, _⟩ := hr; trivial⟩
  | fn f cs =>
    obtain ⟨h1, h2⟩ := sel_eq_some (show sel _ _ _ = _ from h)
    simp only [Prod.mk.injEq] at h2
    rw [← h2.1]
    have h3 := clB_tr hs (md := .own t) (a := .fn f cs) (by simpa [AV.clB] using h1) hr
    exact ⟨h3, by obtain ⟨v, rfl, _⟩ := hr; trivial⟩
  | _ => cases h
theorem clL_sound (R : RelC W0 S F n L m s a w) {C' : Cx} (hs : Stays (cx w S F L m s.σ) C') {p : Id} : ∀ {cs vs : List AV} {I : List Id}, s.clL cs = some (vs, I) → ∀ {ys : List Value} {q q' : Nat}, RepVs (cx w S F L m s.σ) false (.read .ent) q' cs ys →
    (∀ x ∈ mvCs p q cs, Tr (cx w S F L m s.σ) C' (.own x.1) (.own x.2)) → vs.length = cs.length ∧ ys.length = cs.length ∧ (∀ y ∈ ys, one y) ∧ ∀ j v, vs[j]? = some v → ∃ y, ys[j]? = some y ∧ Rep C' true (.own (p ++ [q + j])) v y
  | [], vs, I, h, ys, q, q', hr, _ => by
    simp [St.clL] at h
    obtain rfl := hr
    simp [h.1]
  | c :: cs, vs, I, h, ys, q, q', hr, ht => by
    simp only [St.clL] at h
    obtain ⟨x, hx, h⟩ := bindO_eq h
    obtain ⟨z, hz, h⟩ := bindO_eq h
    simp only [Option.some.injEq, Prod.mk.injEq] at h
    obtain ⟨y, ys, rfl, hr1, hr2⟩ := hr
    obtain ⟨g1, g2⟩ := clC_sound R hs (show s.clC c = some (x.1, x.2) from hx) hr1 (t := p ++ [q]) (fun z hz => ht z (by simp [mvCs, hz]))
    obtain ⟨g3, g4, g5, g6⟩ := clL_sound (p := p) R hs (show s.clL cs = some (z.1, z.2) from hz) (q := q + 1) hr2 (fun z hz => ht z (by simp [mvCs, hz]))
    rw [← h.1]
    refine ⟨by simp [g3], by simp [g4], fun y' hy' => ?_, fun j v hj => ?_⟩
    · rcases List.mem_cons.1 hy' with rfl | hy'
      · exact g2
      · exact g5 y' hy'
    · cases j with
      | zero => obtain rfl : x.1 = v := by simpa using hj
                exact ⟨y, by simp, by simpa using g1⟩
      | succ j =>
        obtain ⟨y', h1, h2⟩ := g6 j v (by simpa using hj)
        exact ⟨y', by simpa using h1, by rwa [show q + (j + 1) = q + 1 + j by omega]⟩
theorem rep_nilC {C : Cx} {cl : Bool} {p : Id} {v : AV} {y : Value} (h : Rep C cl (.own p) v y) (ty : Option (Nat × Nat)) : Rep C cl (.own p) (nilC ty v) y := by
  unfold nilC
  split
  · exact ⟨none, 0, h.1, .inl ⟨rfl, rfl, rfl⟩⟩
  · exact h
theorem nilL_length : ∀ (ts : List (Option (Nat × Nat))) (vs : List AV), (nilL ts vs).length = vs.length
  | [], vs => by simp [nilL]
  | _ :: _, [] => by simp [nilL]
  | t :: ts, v :: vs => by simp [nilL, nilL_length ts vs]
theorem nilL_at : ∀ {ts : List (Option (Nat × Nat))} {vs : List AV} {j : Nat} {v' : AV}, (nilL ts vs)[j]? = some v' → ∃ ty v, vs[j]? = some v ∧ v' = nilC ty v
  | [], vs, j, v', h => ⟨none, v', by simpa [nilL] using h, by simp [nilC]⟩
  | _ :: _, [], j, v', h => by simp [nilL] at h
  | t :: ts, v :: vs, 0, v', h => ⟨t, v, rfl, by simpa [nilL] using h.symm⟩
  | t :: ts, v :: vs, j + 1, v', h => by
    obtain ⟨ty, u, h1, h2⟩ := nilL_at (ts := ts) (vs := vs) (j := j) (by simpa [nilL] using h)
    exact ⟨ty, u, by simpa using h1, h2⟩
theorem setAt_length : ∀ (vs : List AV) (k : Nat) (cs : List AV), (setAt vs k cs).length = cs.length
  | [], _, _ => rfl
  | v :: vs, k, cs => by rw [setAt, setAt_length vs (k + 1), List.length_set]
theorem setAt_at : ∀ {vs : List AV} {k : Nat} {cs : List AV} {j : Nat} {c : AV}, (setAt vs k cs)[j]? = some c → (k ≤ j ∧ vs[j - k]? = some c) ∨ ((j < k ∨ k + vs.length ≤ j) ∧ cs[j]? = some c)
  | [], k, cs, j, c, h => .inr ⟨by simp only [List.length_nil]; omega, h⟩
  | v :: vs, k, cs, j, c, h => by
    rw [setAt] at h
    rcases setAt_at h with ⟨h1, h2⟩ | ⟨h1, h2⟩
    · left
      refine ⟨by omega, ?_⟩
      rw [show j - k = (j - (k + 1)) + 1 by omega]
      simpa using h2
    · rw [List.getElem?_set] at h2
      split at h2
      · rename_i e
        subst e
        split at h2
        · left
          exact ⟨Nat.le_refl _, by simpa using h2⟩
        · cases h2
      · right
        refine ⟨?_, h2⟩
        simp only [List.length_cons]
        omega
def okCell : AV → Prop
  | .v u => one u
  | .rd .. | .rp .. | .ref _ | .ptr .. | .ifc .. | .fn .. => True
  | _ => False
theorem okCell_box {c : AV} (h : okBox c = true) : okCell c := by
  cases c <;> simp_all [okBox, okCell, oneB_iff]
theorem okCell_cl {c : AV} {x : AV × List Id} (h : s.clC c = some x) : okCell c := by
  cases c with
  | v u =>
    simp only [St.clC] at h
    exact oneB_iff.1 (sel_eq_some h).1
  | rd => trivial
  | ref => trivial
  | ifc => trivial
  | fn => trivial
  | _ => cases h
theorem okCell_clL : ∀ {cs : List AV} {x : List AV × List Id}, s.clL cs = some x → ∀ c ∈ cs, okCell c
  | [], _, _, c, hc => by simp at hc
  | d :: cs, x, h, c, hc => by
    simp only [St.clL] at h
    obtain ⟨y, hy, h⟩ := bindO_eq h
    obtain ⟨z, hz, _⟩ := bindO_eq h
    rcases List.mem_cons.1 hc with rfl | hc
    · exact okCell_cl hy
    · exact okCell_clL hz c hc
theorem okCell_one {C : Cx} {cl : Bool} {md : Md} {c : AV} {y : Value} (h : okCell c) (hr : Rep C cl md c y) : one y := by
  cases c with
  | v u => rw [hr.1]; exact h
  | rd => obtain ⟨_, _, A, c, rfl, _⟩ := hr; trivial
  | rp => obtain ⟨_, _, b, o, rfl, _⟩ := hr; trivial
  | ref => exact hr.2.1
  | ptr => obtain ⟨_, _, g, o, _, rfl⟩ := hr; trivial
  | ifc => obtain ⟨_, rfl, _⟩ := hr; trivial
  | fn => obtain ⟨_, rfl, _⟩ := hr; trivial
  | _ => exact h.elim
theorem cells_one {y : Value} (h : one y) : y.cells = #[y] := by cases y <;> first | rfl | exact h.elim
theorem cells_rep {C : Cx} {av : AV} {v : Value} (hr : Rep C false (.read .ent) av v) (hok : ∀ c ∈ av.cells, okCell c) : RepVs C false (.read .ent) 0 av.cells v.cells.toList := by
  have key : av.cells = [av] → RepVs C false (.read .ent) 0 av.cells v.cells.toList := fun e => by
    have h1 := okCell_one (hok av (by rw [e]; simp)) hr
    rw [e, cells_one h1]
    exact ⟨v, [], rfl, hr, rfl⟩
  cases av with
  | agg cs => obtain ⟨vs, rfl, h⟩ := hr; exact h
  | _ => exact key rfl
end
end Go.Ev
set_option linter.unusedVariables false
set_option linter.unusedSimpArgs false
namespace Go.Ev
open Go Go.RowKit
theorem RepCs.conv {C C' : Cx} {cl cl' : Bool} {md md' : Md} {b b' : Nat} (f : AV → AV) : ∀ {cs : List AV} {off off' q q' : Nat}, RepCs C cl md b off q cs → (∀ j, j < cs.length → C'.w.cell? ⟨b', off' + j, none⟩ = C.w.cell? ⟨b, off + j, none⟩) →
    (∀ k c y, cs[k]? = some c → one y → Rep C cl (md.sub (q + k)) c y → Rep C' cl' (md'.sub (q' + k)) (f c) y) → RepCs C' cl' md' b' off' q' (cs.map f)
  | [], _, _, _, _, _, _, _ => trivial
  | c :: cs, off, off', q, q', h, hc, hf => by
    obtain ⟨⟨y, h1, h2, h3⟩, h4⟩ := h
    refine ⟨⟨y, (by simpa using (hc 0 (by simp)).trans (by simpa using h1)), h2, by simpa using hf 0 c y (by simp) h2 (by simpa using h3)⟩, RepCs.conv f h4 (fun j hj => ?_) (fun k c' y' hk hy hr => ?_)⟩
    · have := hc (j + 1) (by simpa using hj)
      rwa [show off' + (j + 1) = off' + 1 + j by omega, show off + (j + 1) = off + 1 + j by omega] at this
    · have := hf (k + 1) c' y' (by simpa using hk) hy (by rwa [show q + (k + 1) = q + 1 + k by omega])
      rwa [show q' + (k + 1) = q' + 1 + k by omega] at this
theorem RepEls.conv {C C' : Cx} {md md' : Md} {b b' sz : Nat} (f : AV → AV) : ∀ {els : List (List AV)} {off off' q q' : Nat}, RepEls C md b off q sz els → (∀ j, j < els.length * sz → C'.w.cell? ⟨b', off' + j, none⟩ = C.w.cell? ⟨b, off + j, none⟩) →
    (∀ cs ∈ els, ∀ c ∈ cs, ∀ k y, one y → Rep C true (md.sub (q + k)) c y → Rep C' true (md'.sub (q' + k)) (f c) y) → RepEls C' md' b' off' q' sz (els.map (List.map f))
  | [], _, _, _, _, _, _, _ => trivial
  | e :: es, off, off', q, q', h, hc, hf => by
    obtain ⟨h1, h2, h3⟩ := h
    have hm : sz ≤ (e :: es).length * sz := by rw [List.length_cons, Nat.add_mul]; omega
    refine ⟨by simpa using h1, RepCs.conv f h2 (fun j hj => hc j (by omega)) (fun k c y hk hy hr => hf e (by simp) c (List.mem_of_getElem? hk) k y hy hr), RepEls.conv f h3 (fun j hj => ?_) (fun cs hcs c hcc k y hy hr => ?_)⟩
    · have := hc (sz + j) (by rw [List.length_cons, Nat.add_mul]; omega)
      rwa [← Nat.add_assoc, ← Nat.add_assoc] at this
    · have := hf cs (by simp [hcs]) c hcc (sz + k) y hy (by rwa [← Nat.add_assoc])
      rwa [← Nat.add_assoc] at this
theorem RepEls.append {C : Cx} {md : Md} {b sz : Nat} : ∀ {xs ys : List (List AV)} {off q : Nat}, RepEls C md b off q sz xs → RepEls C md b (off + xs.length * sz) (q + xs.length * sz) sz ys → RepEls C md b off q sz (xs ++ ys)
  | [], ys, off, q, _, h => by simpa using h
  | x :: xs, ys, off, q, h, h' => by
    refine ⟨h.1, h.2.1, RepEls.append h.2.2 ?_⟩
    rw [List.length_cons, Nat.add_mul, Nat.one_mul, Nat.add_comm _ sz, ← Nat.add_assoc, ← Nat.add_assoc] at h'
    exact h'
theorem RepCs.cells {C : Cx} {cl : Bool} {md : Md} {b : Nat} : ∀ {cs : List AV} {off q : Nat}, RepCs C cl md b off q cs → ∃ vs : List Value, vs.length = cs.length ∧ ∀ j v, vs[j]? = some v → C.w.cell? ⟨b, off + j, none⟩ = some v ∧ one v
  | [], _, _, _ => ⟨[], rfl, fun j v h => by simp at h⟩
  | c :: cs, off, q, h => by
    obtain ⟨⟨y, h1, h2, h3⟩, h4⟩ := h
    obtain ⟨vs, g1, g2⟩ := RepCs.cells h4
    refine ⟨y :: vs, by simp [g1], fun j v hj => ?_⟩
    cases j with
    | zero => obtain rfl : y = v := by simpa using hj
              exact ⟨h1, h2⟩
    | succ j => have := g2 j v (by simpa using hj)
                rwa [show off + (j + 1) = off + 1 + j by omega]
theorem RepEls.cells {C : Cx} {md : Md} {b sz : Nat} : ∀ {els : List (List AV)} {off q : Nat}, RepEls C md b off q sz els → ∃ vs : List Value, vs.length = els.length * sz ∧ ∀ j v, vs[j]? = some v → C.w.cell? ⟨b, off + j, none⟩ = some v ∧ one v
  | [], _, _, _ => ⟨[], by simp, fun j v h => by simp at h⟩
  | e :: es, off, q, h => by
    obtain ⟨h1, h2, h3⟩ := h
    obtain ⟨us, g1, g2⟩ := RepCs.cells h2
    obtain ⟨vs, g3, g4⟩ := RepEls.cells h3
    refine ⟨us ++ vs, by rw [List.length_append, g1, g3, h1, List.length_cons, Nat.add_mul]; omega, fun j v hj => ?_⟩
    rw [List.getElem?_append] at hj
    split at hj
    · exact g2 j v hj
    · have := g4 _ v hj
      rwa [show off + sz + (j - us.length) = off + j by omega] at this
section
variable {P : Program} {H : Nat → Nat} {W0 : Bs} {S F : Nat → Prop} {n : Nat} {L : Nat → Option Id} {m : Id → Value} {s : St} {a : Act} {w : World} {K : St → Prop}
def ES (gr : Bool) (P : Program) (W0 : Bs) (S F : Nat → Prop) (n : Nat) (K : St → Prop) (o : Oper) (a : Act) (w : World) : Prop :=
  ∃ v w' s', ((execOp a.eval o).run P w = .ok (.value v) w' ∨ ((execOp a.eval o).run P w = .ok .skip w' ∧ v = undef)) ∧ Rel W0 S F n s' (a.put o.dst v) w' ∧ K s' ∧ (gr = true → Grows w w')
theorem Stays.wrote (R : RelC W0 S F n L m s a w) {w' : World} {g : Nat} (hw : Wrote w w' g) (hg0 : W0.ok g) (L' : Nat → Option Id) (m' : Id → Value) (σ' : Id → Option OB) : Stays (cx w S F L m s.σ) (cx w' S F L' m' σ') := by
  have hold : ∀ b, S b ∨ F b → w'.heap[b]? = w.heap[b]? := fun b hb => by
    have h1 := R.old b hb
    exact hw.other b (fun e => h1 (e ▸ hg0)) (Nat.lt_of_lt_of_le (Bs.lt h1) R.below.size)
  exact ⟨fun b hb => ⟨hb, hold b (.inl hb)⟩, fun b hb => ⟨hb, hold b (.inr hb)⟩⟩
theorem cell_lt {w : World} {b o : Nat} {arr : Array Value} {e : TypeId} {fr : Nat × Nat} (h : w.heap[b]? = some (.cells arr e fr)) (ho : o < arr.size) : (w.cell? ⟨b, o, none⟩).isSome = true := by
  unfold World.cell?
  simp [h, ho]
theorem not_frozen {w : World} {b o : Nat} {arr : Array Value} {e : TypeId} {fr : Nat × Nat} (h : w.heap[b]? = some (.cells arr e fr)) (hf : ¬ (fr.1 ≤ o ∧ o < fr.2)) : w.frozen? ⟨b, o, none⟩ = false := by
  unfold World.frozen?
  obtain ⟨lo, hi⟩ := fr
  simp only [h]
  simpa using hf
theorem run_storeAt {T : TypeId} {k : Nat} {g : Bool} (ht : tySz P T = some (k, g)) {w : World} {b o : Nat} {v : Value} (hk : v.cells.size = k) (hc : ∀ j, j < k → (w.cell? ⟨b, o + j, none⟩).isSome = true ∧ w.frozen? ⟨b, o + j, none⟩ = false) (h1 : ∀ y ∈ v.cells.toList, one y) :
    (Instr.storeAt T (.pointer (some ⟨b, o, none⟩)) v).run P w = .ok () (w.setCells b o v.cells.toList) := by
  obtain ⟨_, hs, _⟩ := tySz_run ht w
  have := run_storeCells_cells (P := P) b o v.cells.toList 0 w (fun j hj => by simpa using (hc j (by simpa [hk] using hj)).1) (fun j hj => by simpa using (hc j (by simpa [hk] using hj)).2) (fun y hy => one_iff.1 (h1 y hy))
  simp only [Nat.add_zero] at this
  simp [Instr.storeAt, Instr.sureAddr, storeVar, hs, hk, this]
theorem upd_lt {i j n sz k t : Nat} (hi : i < n) (hk : k + t ≤ sz) (hj : j < t) : i * sz + k + j < n * sz := by
  have : (i + 1) * sz ≤ n * sz := Nat.mul_le_mul_right _ hi
  rw [Nat.add_mul] at this
  omega
theorem e_store_row {o : Oper} {T : TypeId} {x y : Operand} (ho : o.op = .store T x y) (hd : dOk n o.dst) (R : RelC W0 S F n L m s a w) {t : Nat × Bool} (ht : tySz P T = some t) {id : Id} {sz i k : Nat} (hv : s.ev x = .ptr id sz i k) {e : Nat} {els : List (List AV)}
    (hs : s.σ id = some (.row e sz els)) {cs : List AV} (hcs : els[i]? = some cs) {vs : List AV} {I : List Id} (hcl : s.clL (s.ev y).cells = some (vs, I)) (hlen : (s.ev y).cells.length = t.1) (hk : k + t.1 ≤ cs.length) (hind : indep I = true) (hh : hit I id = false)
    (hK : K (((s.chg I (id :: I)).obj id (.row e sz (els.set i (setAt (nilL ((cty P e).drop k) vs) k cs)))).put o.dst .any)) : ES false P W0 S F n K o a w := by
  have hx := R.ev x
  have hy := R.ev y
  rw [hv] at hx
  obtain ⟨_, hl, g', off', hg', he⟩ := hx
  obtain ⟨A, c, hm, hR⟩ := R.obj id _ hs
  have hm' : m id = .slice A els.length c := hm
  rw [show (cx w S F L m s.σ).m id = m id from rfl, hm'] at hg'
  rcases hR with ⟨rfl, _⟩ | ⟨g, off, arr, fr, q, rfl, hL, hh', h8, h9, h10, h11, hE⟩
  · simp at hcs
  simp only [hdrAddr, Option.some.injEq, Addr.mk.injEq] at hg'
  obtain ⟨rfl, rfl, _⟩ := hg'
  obtain ⟨hcl0, hC0⟩ := hE.at_ hcs
  have hi : i < els.length := (List.getElem?_eq_some_iff.1 hcs).1
  have hreps := cells_rep hy (okCell_clL hcl)
  have hL' : L g = some id := hL
  have hw' : w.heap[g]? = some (.cells arr e fr) := hh'
  have hgl := (R.lab g id hL').2
  have hg0 := (R.lab g id hL').1
  have hin : ∀ j, j < t.1 → i * sz + k + j < c * sz := fun j hj => Nat.lt_of_lt_of_le (upd_lt hi (by omega) hj) (Nat.mul_le_mul_right _ h8)
  have hw := wrote_setCells hgl (a.eval y).cells.toList (off + i * sz + k)
  have hmv := clL_mv hcl id (q + i * sz + k)
  have hout : ∀ z, hit I z = false → ∀ r, mvL (mvCs id (q + i * sz + k) (s.ev y).cells) (z ++ r) = z ++ r := fun z hz r => mvL_out (fun x hx => hit_mem (by rw [← hmv]; exact List.mem_map.2 ⟨x, hx, rfl⟩) hz) r
  have hsub : ∀ z, hit (id :: I) z = false → hit I z = false := fun z hz => by
    have : (cmp id z || hit I z) = false := hz
    simp only [Bool.or_eq_false_iff] at this
    exact this.2
  have hgid : ∀ p, L g = some p → p = id := fun p hp => by rw [hL'] at hp; exact (Option.some.inj hp).symm
  have kp := keep_wrote R (I := I) (J := id :: I) (id := id) (ob := .row e sz (els.set i (setAt (nilL ((cty P e).drop k) vs) k cs))) hw hsub (by simp)
    (ρ := mvL (mvCs id (q + i * sz + k) (s.ev y).cells)) (fun z r hz => hout z (hsub z hz) r) hgid hg0 (hdr := m id)
    (fun z hz hzl hzj => by
      have : (cmp id z || hit I z) = true := hzj
      rw [hz, Bool.or_false] at this
      exact ⟨(R.ind id z hl hzl this).symm, rfl⟩)
  have hylen : (a.eval y).cells.toList.length = t.1 := by
    have hall := clL_sound (p := id) (q := q + i * sz + k) R kp.st hcl hreps (fun z hz => tr_moved R hw hgid (fun r => mvL_in (by rw [hmv]; exact hind) hz r) (ne_append (hit_mem (by rw [← hmv]; exact List.mem_map.2 ⟨z, hz, rfl⟩) hh)))
    rw [hall.2.1, hlen]
  have hall := clL_sound (p := id) (q := q + i * sz + k) R kp.st hcl hreps (fun z hz => tr_moved R hw hgid (fun r => mvL_in (by rw [hmv]; exact hind) hz r) (ne_append (hit_mem (by rw [← hmv]; exact List.mem_map.2 ⟨z, hz, rfl⟩) hh)))
  obtain ⟨_, _, hone, hat⟩ := hall
  have hex : ∀ j, j < t.1 → (w.cell? ⟨g, off + i * sz + k + j, none⟩).isSome = true := fun j hj => cell_lt hw' (by have := hin j hj; omega)
  have hrun := run_storeAt (P := P) (w := w) (b := g) (o := off + i * sz + k) (v := a.eval y) ht (by simpa using hylen) (fun j hj => ⟨hex j hj, not_frozen hw' (by have := h10 (i * sz + k + j) (hin j hj); rwa [← Nat.add_assoc, ← Nat.add_assoc] at this)⟩) hone
  obtain ⟨arr', g1, g2⟩ := setCells_same g (a.eval y).cells.toList (off + i * sz + k) w arr e fr hw'
  have trs : ∀ z, Tr (cx w S F L m s.σ) (cx (w.setCells g (off + i * sz + k) (a.eval y).cells.toList) S F (newL L (mvL (mvCs id (q + i * sz + k) (s.ev y).cells)) g id) (newM m id (m id)) (updS (killS s.σ I (id :: I)) id (.row e sz (els.set i (setAt (nilL ((cty P e).drop k) vs) k cs))))) (.own (id ++ [z])) (.own (id ++ [z])) := fun z =>
    tr_moved R hw hgid (fun r => by rw [List.append_assoc]; exact hout id hh _) (fun r e => by have := congrArg List.length e; simp at this)
  have hob : RepOb (cx (w.setCells g (off + i * sz + k) (a.eval y).cells.toList) S F (newL L (mvL (mvCs id (q + i * sz + k) (s.ev y).cells)) g id) (newM m id (m id)) (updS (killS s.σ I (id :: I)) id (.row e sz (els.set i (setAt (nilL ((cty P e).drop k) vs) k cs))))) id (.row e sz (els.set i (setAt (nilL ((cty P e).drop k) vs) k cs))) := by
    show Rep _ true (.own id) (.row e sz _) (newM m id (m id) id)
    have hnm : newM m id (m id) id = .slice (some ⟨g, off, none⟩) (els.set i (setAt (nilL ((cty P e).drop k) vs) k cs)).length c := by rw [List.length_set]; exact (if_pos rfl).trans hm'
    refine ⟨_, c, hnm, .inr ⟨g, off, arr', fr, q, rfl, ?_, g1, by rw [List.length_set]; exact h8, by omega, h10, by rw [List.length_set]; exact h11, RepEls.of fun i' cs' hi' => ?_⟩⟩
    · show newL L _ g id g = some id
      simp [newL]
    · rw [List.getElem?_set] at hi'
      split at hi'
      · rename_i e1
        subst e1
        obtain rfl := Option.some.inj hi'
        refine ⟨by rw [setAt_length]; exact hcl0, RepCs.of fun j c' hj => ?_⟩
        have hjl : j < sz := by
          have := (List.getElem?_eq_some_iff.1 hj).1
          rw [setAt_length] at this
          omega
        rcases setAt_at hj with ⟨h1, h2⟩ | ⟨h1, h2⟩
        · obtain ⟨ty, v, h3, rfl⟩ := nilL_at h2
          obtain ⟨u, h4, h5⟩ := hat _ _ h3
          have hjl' := (List.getElem?_eq_some_iff.1 h4).1
          have h6 := World.cell?_setCells_in g (a.eval y).cells.toList (off + i * sz + k) w (fun j hj => hex j (by omega)) (j - k) hjl'
          rw [show off + i * sz + k + (j - k) = off + i * sz + j by omega] at h6
          rw [show q + i * sz + k + (j - k) = q + i * sz + j by omega] at h5
          refine ⟨u, h6.trans (by rw [← h4]; exact (List.getElem?_eq_getElem hjl').symm), hone u (List.mem_of_getElem? h4), rep_nilC h5 ty⟩
        · obtain ⟨u, h4, h5, h6⟩ := hC0.at_ h2
          refine ⟨u, ?_, h5, Rep.tr kp.st (trs _) _ _ h6⟩
          rw [nilL_length] at h1
          refine (World.cell?_setCells_out g _ _ w _ (fun _ _ => ?_)).trans h4
          show off + i * sz + j < off + i * sz + k ∨ off + i * sz + k + (a.eval y).cells.toList.length ≤ off + i * sz + j
          have : vs.length = t.1 := by
            have := (clL_sound (p := id) (q := q + i * sz + k) R kp.st hcl hreps (fun z hz => tr_moved R hw hgid (fun r => mvL_in (by rw [hmv]; exact hind) hz r) (ne_append (hit_mem (by rw [← hmv]; exact List.mem_map.2 ⟨z, hz, rfl⟩) hh)))).1
            omega
          omega
      · rename_i hne
        obtain ⟨h1, h2⟩ := hE.at_ hi'
        refine ⟨h1, ?_⟩
        have := RepCs.conv (C' := cx (w.setCells g (off + i * sz + k) (a.eval y).cells.toList) S F (newL L (mvL (mvCs id (q + i * sz + k) (s.ev y).cells)) g id) (newM m id (m id)) (updS (killS s.σ I (id :: I)) id (.row e sz (els.set i (setAt (nilL ((cty P e).drop k) vs) k cs))))) (cl' := true) (md' := .own id) (b' := g) (off' := off + i' * sz) (q' := q + i' * sz) (fun x => x) h2 (fun j hj => ?_) (fun j c' u _ _ hr => Rep.tr kp.st (trs _) _ _ hr)
        · simpa using this
        · refine World.cell?_setCells_out g _ _ w _ (fun _ _ => ?_)
          show off + i' * sz + j < off + i * sz + k ∨ off + i * sz + k + (a.eval y).cells.toList.length ≤ off + i' * sz + j
          rcases Nat.lt_or_gt_of_ne hne with hlt | hlt
          · right
            have : (i + 1) * sz ≤ i' * sz := Nat.mul_le_mul_right _ hlt
            rw [Nat.add_mul] at this
            omega
          · left
            have : (i' + 1) * sz ≤ i * sz := Nat.mul_le_mul_right _ hlt
            rw [Nat.add_mul] at this
            omega
  refine ⟨undef, _, _, .inr ⟨?_, rfl⟩, ⟨_, _, (R.wrote hw (by simp) hg0 kp hob).put hd (x := .any) trivial⟩, hK, fun h => by cases h⟩
  simp only [execOp, ho, he, Sem.run_bind, hrun]
  rfl
theorem mem_killL {I J : List Id} : ∀ {cs : List AV} {j : Nat} {c : AV}, (killL I J cs)[j]? = some c → ∃ c0, cs[j]? = some c0 ∧ c = c0.kill I J
  | [], _, _, h => by simp [killL] at h
  | d :: cs, 0, c, h => ⟨d, rfl, by simpa [killL] using h.symm⟩
  | d :: cs, j + 1, c, h => by
    obtain ⟨c0, h1, h2⟩ := mem_killL (cs := cs) (j := j) (by simpa [killL] using h)
    exact ⟨c0, by simpa using h1, h2⟩
theorem RepVs.len {C : Cx} {cl : Bool} {md : Md} : ∀ {cs : List AV} {vs : List Value} {q : Nat}, RepVs C cl md q cs vs → vs.length = cs.length
  | [], vs, _, h => by obtain rfl := h; rfl
  | c :: cs, vs, q, h => by obtain ⟨y, ys, rfl, _, h2⟩ := h; simp [RepVs.len h2]
theorem e_store_box {o : Oper} {T : TypeId} {x y : Operand} (ho : o.op = .store T x y) (hd : dOk n o.dst) (R : RelC W0 S F n L m s a w) {t : Nat × Bool} (ht : tySz P T = some t) {id : Id} {sz k : Nat} (hv : s.ev x = .ptr id sz 0 k) {t' : Nat}
    {cs : List AV} (hs : s.σ id = some (.box t' cs)) (hlen : (s.ev y).cells.length = t.1) (hk : k + t.1 ≤ cs.length) (hok : (s.ev y).cells.all okBox = true)
    (hK : K (((s.chg [] [id]).obj id (.box t' (setAt (killL [] [id] (s.ev y).cells) k (killL [] [id] cs)))).put o.dst .any)) : ES false P W0 S F n K o a w := by
  have hx := R.ev x
  have hy := R.ev y
  rw [hv] at hx
  obtain ⟨_, hl, g', off', hg', he⟩ := hx
  obtain ⟨g, arr, hm, hL, hh', harr, hC0⟩ := R.obj id _ hs
  have hm' : m id = .pointer (some ⟨g, 0, none⟩) := hm
  rw [show (cx w S F L m s.σ).m id = m id from rfl, hm'] at hg'
  simp only [hdrAddr, Option.some.injEq, Addr.mk.injEq] at hg'
  obtain ⟨rfl, rfl, _⟩ := hg'
  simp only [Nat.zero_mul, Nat.add_zero, Nat.zero_add] at he
  have hL' : L g = some id := hL
  have hw' : w.heap[g]? = some (.cells arr t' (0, 0)) := hh'
  have hgl := (R.lab g id hL').2
  have hg0 := (R.lab g id hL').1
  have hokc : ∀ c ∈ (s.ev y).cells, okCell c := fun c hc => okCell_box (List.all_eq_true.1 hok c hc)
  have hreps := cells_rep hy hokc
  have hylen : (a.eval y).cells.toList.length = t.1 := by rw [hreps.len, hlen]
  have hone : ∀ u ∈ (a.eval y).cells.toList, one u := fun u hu => by
    obtain ⟨j, hj⟩ := List.mem_iff_getElem?.1 hu
    have hjl := (List.getElem?_eq_some_iff.1 hj).1
    have hc : (s.ev y).cells[j]? = some ((s.ev y).cells[j]'(by omega)) := List.getElem?_eq_getElem _
    obtain ⟨v, h1, h2⟩ := hreps.at_ hc
    rw [hj] at h1
    obtain rfl := Option.some.inj h1
    exact okCell_one (hokc _ (List.getElem_mem _)) h2
  have hw := wrote_setCells hgl (a.eval y).cells.toList k
  have hgid : ∀ p, L g = some p → p = id := fun p hp => by rw [hL'] at hp; exact (Option.some.inj hp).symm
  have kp := keep_wrote R (I := []) (J := [id]) (id := id) (ob := .box t' (setAt (killL [] [id] (s.ev y).cells) k (killL [] [id] cs))) hw (fun z _ => rfl) (by simp)
    (ρ := fun p => p) (fun z r hz => rfl) hgid hg0 (hdr := m id)
    (fun z hz hzl hzj => by
      have : (cmp id z || false) = true := hzj
      rw [Bool.or_false] at this
      exact ⟨(R.ind id z hl hzl this).symm, rfl⟩)
  have hex : ∀ j, j < t.1 → (w.cell? ⟨g, k + j, none⟩).isSome = true := fun j hj => cell_lt hw' (by omega)
  have hrun := run_storeAt (P := P) (w := w) (b := g) (o := k) (v := a.eval y) ht (by simpa using hylen) (fun j hj => ⟨hex j hj, not_frozen hw' (by simp)⟩) hone
  obtain ⟨arr', g1, g2⟩ := setCells_same g (a.eval y).cells.toList k w arr t' (0, 0) hw'
  have hob : RepOb (cx (w.setCells g k (a.eval y).cells.toList) S F (newL L (fun p => p) g id) (newM m id (m id)) (updS (killS s.σ [] [id]) id (.box t' (setAt (killL [] [id] (s.ev y).cells) k (killL [] [id] cs))))) id (.box t' (setAt (killL [] [id] (s.ev y).cells) k (killL [] [id] cs))) := by
    refine ⟨g, arr', (if_pos rfl).trans hm', ?_, g1, by rw [setAt_length, length_killL, g2, harr], RepCs.of fun j c' hj => ?_⟩
    · show newL L _ g id g = some id
      simp [newL]
    · rcases setAt_at hj with ⟨h1, h2⟩ | ⟨h1, h2⟩
      · obtain ⟨c0, h3, rfl⟩ := mem_killL h2
        obtain ⟨u, h4, h5⟩ := hreps.at_ h3
        have hjl' := (List.getElem?_eq_some_iff.1 h4).1
        have h6 := World.cell?_setCells_in g (a.eval y).cells.toList k w (fun j hj => hex j (by omega)) (j - k) hjl'
        rw [show k + (j - k) = j by omega] at h6
        refine ⟨u, by rw [Nat.zero_add]; exact h6.trans (by rw [← h4]; exact (List.getElem?_eq_getElem hjl').symm), hone u (List.mem_of_getElem? h4), Rep.keep kp _ _ h5⟩
      · obtain ⟨c0, h3, rfl⟩ := mem_killL h2
        obtain ⟨u, h4, h5, h6⟩ := hC0.at_ h3
        refine ⟨u, (World.cell?_setCells_out g _ _ w _ (fun _ _ => ?_)).trans h4, h5, Rep.keep kp _ _ h6⟩
        show 0 + j < k ∨ k + (a.eval y).cells.toList.length ≤ 0 + j
        have := (List.getElem?_eq_some_iff.1 h2).1
        rw [length_killL] at h1
        omega
  refine ⟨undef, _, _, .inr ⟨?_, rfl⟩, ⟨_, _, (R.wrote hw (by simp) hg0 kp hob).put hd (x := .any) trivial⟩, hK, fun h => by cases h⟩
  simp only [execOp, ho, he, Sem.run_bind, hrun]
  rfl
theorem e_new {o : Oper} (R : RelC W0 S F n L m s a w) {d : Nat} (hdst : o.dst = some d) (hd : dOk n o.dst) {I : List Id} {ob : OB} {w' : World} (hw : Wrote w w' w.heap.size) {ρ : Id → Id} (hρ : ∀ y r, hit ([d] :: I) y = false → ρ (y ++ r) = y ++ r) {hdr : Value}
    (hrun : (execOp a.eval o).run P w = .ok (.value hdr) w') {x : AV}
    (hob : ∀ (σ' : Id → Option OB), Keep (cx w S F L m s.σ) (cx w' S F (newL L ρ w.heap.size [d]) (newM m [d] hdr) (updS (killS s.σ ([d] :: I) ([d] :: I)) [d] ob)) ([d] :: I) ([d] :: I) → σ' = updS (killS s.σ ([d] :: I) ([d] :: I)) [d] ob → RepOb (cx w' S F (newL L ρ w.heap.size [d]) (newM m [d] hdr) σ') [d] ob)
    (hx : (x = .ref [d] ∧ one hdr) ∨ ∃ g, x = .ptr [d] 0 0 0 ∧ hdr = .pointer (some ⟨g, 0, none⟩))
    (hK : K (((s.chg ([d] :: I) ([d] :: I)).obj [d] ob).put (some d) x)) : ES true P W0 S F n K o a w := by
  have hg : ∀ p, L w.heap.size = some p → p = [d] := fun p hp => absurd (R.lab _ p hp).2 (by omega)
  have kp := keep_wrote R (I := [d] :: I) (J := [d] :: I) (id := [d]) (ob := ob) hw (fun _ h => h) (by simp) hρ hg (.inl R.below.size) (hdr := hdr) (fun y h1 _ h2 => by rw [h1] at h2; cases h2)
  have R' := R.wrote hw (by simp) (.inl R.below.size) kp (hob _ kp rfl)
  have e1 : ((s.chg ([d] :: I) ([d] :: I)).obj [d] ob).σ [d] = some ob := by show updS _ _ _ _ = _; simp [updS, sel]
  have hxr : Rep (cx w' S F (newL L ρ w.heap.size [d]) (newM m [d] hdr) ((s.chg ([d] :: I) ([d] :: I)).obj [d] ob).σ) false (.read .ent) x hdr := by
    have e2 : newM m [d] hdr [d] = hdr := if_pos rfl
    rcases hx with ⟨rfl, h1⟩ | ⟨g, rfl, h1⟩
    · exact ⟨rfl, h1, RelC.live e1, e2.symm⟩
    · refine ⟨rfl, RelC.live e1, g, 0, ?_, by rw [h1]⟩
      show hdrAddr (newM m [d] hdr [d]) = _
      rw [e2, h1]
      rfl
  refine ⟨hdr, w', _, .inl hrun, ⟨_, _, R'.put hd hxr⟩, by rw [hdst]; exact hK, fun _ => ⟨hw.size, fun b hb => hw.other b (by omega) hb⟩⟩
def NS (P : Program) (W0 : Bs) (S F : Nat → Prop) (n : Nat) (K : St → Prop) (o : Oper) (L : Nat → Option Id) (a : Act) (w : World) : Prop :=
  ∃ (hdrOf : Nat → Value) (obj : Obj), (∀ w1 : World, (execOp a.eval o).run P w1 = .ok (.value (hdrOf w1.heap.size)) (w1.alloc obj)) ∧
    ∀ (w' : World) (g : Nat), Wrote w w' g → W0.ok g → L g = none → w'.heap[g]? = some obj → ∃ s', Rel W0 S F n s' (a.put o.dst (hdrOf g)) w' ∧ K s'
theorem NS.es {o : Oper} (h : NS P W0 S F n K o L a w) (R : RelC W0 S F n L m s a w) : ES true P W0 S F n K o a w := by
  obtain ⟨hdrOf, obj, hrun, h⟩ := h
  have hw := wrote_alloc w obj
  obtain ⟨s', hR, hK⟩ := h (w.alloc obj) w.heap.size hw (.inl R.below.size) (by
    cases hL : L w.heap.size with
    | none => rfl
    | some p => exact absurd (R.lab _ p hL).2 (by omega)) (alloc_heap w obj)
  exact ⟨_, _, s', .inl (hrun w), hR, hK, fun _ => ⟨hw.size, fun b hb => hw.other b (by omega) hb⟩⟩
theorem e_newN {o : Oper} (R : RelC W0 S F n L m s a w) {d : Nat} (hdst : o.dst = some d) (hd : dOk n o.dst) {I : List Id} {ob : OB} {ρ : Id → Id} (hρ : ∀ y r, hit ([d] :: I) y = false → ρ (y ++ r) = y ++ r) {hdrOf : Nat → Value} {obj : Obj}
    (hrun : ∀ w1 : World, (execOp a.eval o).run P w1 = .ok (.value (hdrOf w1.heap.size)) (w1.alloc obj)) {x : AV}
    (hob : ∀ (w' : World) (g : Nat) (σ' : Id → Option OB), Wrote w w' g → (∀ p, L g ≠ some p) → w'.heap[g]? = some obj → Keep (cx w S F L m s.σ) (cx w' S F (newL L ρ g [d]) (newM m [d] (hdrOf g)) (updS (killS s.σ ([d] :: I) ([d] :: I)) [d] ob)) ([d] :: I) ([d] :: I) → σ' = updS (killS s.σ ([d] :: I) ([d] :: I)) [d] ob → RepOb (cx w' S F (newL L ρ g [d]) (newM m [d] (hdrOf g)) σ') [d] ob)
    (hx : ∀ g, (x = .ref [d] ∧ one (hdrOf g)) ∨ ∃ g', x = .ptr [d] 0 0 0 ∧ hdrOf g = .pointer (some ⟨g', 0, none⟩))
    (hK : K (((s.chg ([d] :: I) ([d] :: I)).obj [d] ob).put (some d) x)) : NS P W0 S F n K o L a w := by
  refine ⟨hdrOf, obj, hrun, fun w' g hw hg0 hL hh => ?_⟩
  have hg : ∀ p, L g = some p → p = [d] := fun p hp => by rw [hL] at hp; cases hp
  have kp := keep_wrote R (I := [d] :: I) (J := [d] :: I) (id := [d]) (ob := ob) hw (fun _ h => h) (by simp) hρ hg hg0 (hdr := hdrOf g) (fun y h1 _ h2 => by rw [h1] at h2; cases h2)
  have R' := R.wrote hw (by simp) hg0 kp (hob w' g _ hw (fun p hp => by rw [hL] at hp; cases hp) hh kp rfl)
  have e1 : ((s.chg ([d] :: I) ([d] :: I)).obj [d] ob).σ [d] = some ob := by show updS _ _ _ _ = _; simp [updS, sel]
  have hxr : Rep (cx w' S F (newL L ρ g [d]) (newM m [d] (hdrOf g)) ((s.chg ([d] :: I) ([d] :: I)).obj [d] ob).σ) false (.read .ent) x (hdrOf g) := by
    have e2 : newM m [d] (hdrOf g) [d] = hdrOf g := if_pos rfl
    rcases hx g with ⟨rfl, h1⟩ | ⟨g', rfl, h1⟩
    · exact ⟨rfl, h1, RelC.live e1, e2.symm⟩
    · refine ⟨rfl, RelC.live e1, g', 0, ?_, by rw [h1]⟩
      show hdrAddr (newM m [d] (hdrOf g) [d]) = _
      rw [e2, h1]
      rfl
  exact ⟨_, ⟨_, _, R'.put hd hxr⟩, by rw [hdst]; exact hK⟩
theorem zeroC_run {e : TypeId} {z : List AV} (h : zeroC P e = some z) : ∃ i v, P.info? e = some i ∧ i.zero = some v ∧ v.cells.size = i.size ∧ z = v.cells.toList.map .v ∧ ∀ u ∈ v.cells.toList, one u := by
  unfold zeroC at h
  split at h
  · rename_i i hi
    split at h
    · rename_i v hv
      split at h
      · rename_i hc
        simp only [Bool.and_eq_true, beq_iff_eq] at hc
        exact ⟨i, v, hi, hv, hc.2, (Option.some.inj h).symm, fun u hu => oneB_iff.1 ((Array.all_eq_true'.1 hc.1) u (by simpa using hu))⟩
      · cases h
    · cases h
  · cases h
theorem n_makeMap {o : Oper} {t : TypeId} (ho : o.op = .makeMap t none) (hd : dOk n o.dst) (R : RelC W0 S F n L m s a w) (h : opE P H o.dst (.makeMap t none) s K) : NS P W0 S F n K o L a w := by
  obtain ⟨ty, _, h1⟩ := onSome.elim (show onSome _ _ from h)
  obtain ⟨d, hdst, h2⟩ := onSome.elim h1
  refine e_newN R hdst hd (I := []) (ob := .mp ty.1 ty.2 []) (ρ := fun p => p) (fun _ _ _ => rfl) (hdrOf := fun g => .map (some g)) (obj := .map #[] 0) (fun w1 => ?_) (fun w' g σ' hw hL hh _ _ => ?_) (fun _ => .inl ⟨rfl, trivial⟩) h2
  · simp only [execOp, ho]
    rfl
  · exact ⟨g, #[], 0, if_pos rfl, by show newL L _ _ _ _ = _; simp [newL], hh, rfl, fun x hx => by simp at hx⟩
theorem e_makeMap {o : Oper} {t : TypeId} (ho : o.op = .makeMap t none) (hd : dOk n o.dst) (R : RelC W0 S F n L m s a w) (h : opE P H o.dst (.makeMap t none) s K) : ES true P W0 S F n K o a w := (n_makeMap ho hd R h).es R
theorem mput_mem {k v : Value} : ∀ {l : List (Value × Value)} {q : Value × Value}, q ∈ mput l k v → q = (k, v) ∨ q ∈ l
  | [], q, h => .inl (by simpa [mput] using h)
  | p :: l, q, h => by
    have h : q ∈ sel (kEq p.1 k) ((k, v) :: l) (p :: mput l k v) := h
    cases hk : kEq p.1 k with
    | true =>
      rw [hk] at h
      rcases List.mem_cons.1 h with h | h
      · exact .inl h
      · exact .inr (.tail _ h)
    | false =>
      rw [hk] at h
      rcases List.mem_cons.1 h with rfl | h
      · exact .inr (.head _)
      · rcases mput_mem h with h | h
        · exact .inl h
        · exact .inr (.tail _ h)
theorem e_mapUpdate {o : Oper} {T : TypeId} {x i y : Operand} (ho : o.op = .mapUpdate T x i y) (hd : dOk n o.dst) (R : RelC W0 S F n L m s a w) (h : opE P H o.dst (.mapUpdate T x i y) s K) : ES false P W0 S F n K o a w := by
  have hx := R.ev x
  have hi := R.ev i
  have hy := R.ev y
  obtain ⟨⟨d, e⟩, ht, h1⟩ := onSome.elim (show onSome _ _ from h)
  rcases onRef.elim h1 with ⟨id, hv, h3⟩ | ⟨b, hv, h3⟩ | h3
  · obtain ⟨d', e', l, hs, h4⟩ := onMp.elim h3
    obtain ⟨u, hu, h5⟩ := onV.elim h4
    obtain ⟨v, hvv, h6⟩ := onV.elim h5
    obtain ⟨⟨rfl, hk⟩, hK⟩ := h6
    obtain ⟨k, hT, hkd⟩ := mapTy_run ht
    obtain ⟨g, es, clock, g1, g2, g3, g4, g5⟩ := R.obj id _ hs
    rw [hv] at hx
    rw [hu] at hi
    rw [hvv] at hy
    have g1' : m id = .map (some g) := g1
    have he : a.eval x = .map (some g) := hx.2.2.2.trans g1'
    have hL : L g = some id := g2
    have hgl := (R.lab g id hL).2
    have hg0 := (R.lab g id hL).1
    have hl : pairsOf es.toList = l := g4
    obtain ⟨es', clock', hrun, hp, hks⟩ := run_mapUpdate_own (P := P) (value := v) hT hkd g3 (fun x hx => (g5 x hx).1) hk
    have hw : Wrote w { w with heap := w.heap.setIfInBounds g (.map es' clock') } g :=
      ⟨rfl, rfl, rfl, by simp, fun b hb _ => by simp [Array.getElem?_setIfInBounds, Ne.symm hb], by simpa using hgl⟩
    have hgid : ∀ p, L g = some p → p = id := fun p hp => by rw [hL] at hp; exact (Option.some.inj hp).symm
    have kp := keep_wrote R (I := []) (J := [id]) (id := id) (ob := .mp d' e' (mput l u v)) hw (fun z _ => rfl) (by simp)
      (ρ := fun p => p) (fun z r hz => rfl) hgid hg0 (hdr := m id)
      (fun z hz hzl hzj => by
        have : (cmp id z || false) = true := hzj
        rw [Bool.or_false] at this
        exact ⟨(R.ind id z (by show (s.σ id).isSome = true; rw [hs]; rfl) hzl this).symm, rfl⟩)
    have hob : RepOb (cx { w with heap := w.heap.setIfInBounds g (.map es' clock') } S F (newL L (fun p => p) g id) (newM m id (m id)) (updS (killS s.σ [] [id]) id (.mp d' e' (mput l u v)))) id (.mp d' e' (mput l u v)) := by
      refine ⟨g, es', clock', (if_pos rfl).trans g1', ?_, ?_, by rw [← hl]; exact hp, fun z hz => ⟨hks z hz, ?_⟩⟩
      · show newL L _ g id g = some id
        simp [newL]
      · show (w.heap.setIfInBounds g (.map es' clock'))[g]? = _
        simp [hgl]
      · have hz' : (z.key, z.val) ∈ mput (pairsOf es.toList) u v := by rw [← hp]; exact List.mem_map_of_mem hz
        rcases mput_mem hz' with h | h
        · rw [show z.val = v from (Prod.mk.inj h).2]; exact hy.2
        · obtain ⟨z', h1, h2⟩ := List.mem_map.1 h
          rw [show z.val = z'.val from (Prod.mk.inj h2).2.symm]
          exact (g5 z' h1).2
    refine ⟨undef, _, _, .inr ⟨?_, rfl⟩, ⟨_, _, (R.wrote hw (by simp) hg0 kp hob).put hd (x := .any) trivial⟩, hK, fun h => by cases h⟩
    have hrun : (Instr.mapUpdate T (.map (some g)) u v).run P w = _ := hrun
    simp only [execOp, ho, he, hi.1, hy.1, Sem.run_bind, hrun]
    rfl
  · exact h3.elim
  · exact h3.elim
theorem n_alloc {o : Oper} {t : TypeId} (ho : o.op = .alloc t) (hd : dOk n o.dst) (R : RelC W0 S F n L m s a w) (h : opE P H o.dst (.alloc t) s K) : NS P W0 S F n K o L a w := by
  obtain ⟨z, hz, h1⟩ := onSome.elim (show onSome _ _ from h)
  obtain ⟨d, hdst, h2⟩ := onSome.elim h1
  obtain ⟨i, v, hi, hv, hsz, rfl, hone⟩ := zeroC_run hz
  refine e_newN R hdst hd (I := []) (ob := .box t (v.cells.toList.map .v)) (ρ := fun p => p) (fun _ _ _ => rfl) (hdrOf := fun g => .pointer (some ⟨g, 0, none⟩)) (obj := .cells v.cells t) (fun w1 => ?_) (fun w' g σ' hw hL hh _ _ => ?_) (fun _ => .inr ⟨_, rfl, rfl⟩) h2
  · simp [execOp, ho, Instr.alloc, zeroValue, typeInfo, hi, hv, newVar, newRow]
  · refine ⟨g, v.cells, if_pos rfl, by show newL L _ _ _ _ = _; simp [newL], hh, by simp, RepCs.of fun j c hj => ?_⟩
    rw [List.getElem?_map] at hj
    obtain ⟨u, hu, rfl⟩ := Option.map_eq_some_iff.1 hj
    refine ⟨u, ?_, hone u (List.mem_of_getElem? hu), rep_v (hone u (List.mem_of_getElem? hu))⟩
    show w'.cell? _ = _
    unfold World.cell?
    rw [show w'.heap[g]? = _ from hh]
    simpa using hu
theorem e_alloc {o : Oper} {t : TypeId} (ho : o.op = .alloc t) (hd : dOk n o.dst) (R : RelC W0 S F n L m s a w) (h : opE P H o.dst (.alloc t) s K) : ES true P W0 S F n K o a w := (n_alloc ho hd R h).es R
theorem n_box {o : Oper} {t : TypeId} {x : Operand} (ho : o.op = .box t x) (hd : dOk n o.dst) (R : RelC W0 S F n L m s a w) (h : opE P H o.dst (.box t x) s K) : NS P W0 S F n K o L a w := by
  obtain ⟨y, hy, h1⟩ := onSome.elim (show onSome _ _ from h)
  obtain ⟨d, hdst, ⟨hlen, hok⟩, h2⟩ := onSome.elim h1
  have hok : (s.ev x).cells.all okBox = true := hok
  have hx := R.ev x
  have hokc : ∀ c ∈ (s.ev x).cells, okCell c := fun c hc => okCell_box (List.all_eq_true.1 hok c hc)
  have hreps := cells_rep hx hokc
  have hone : ∀ u ∈ (a.eval x).cells.toList, one u := fun u hu => by
    obtain ⟨j, hj⟩ := List.mem_iff_getElem?.1 hu
    have hjl := (List.getElem?_eq_some_iff.1 hj).1
    rw [hreps.len] at hjl
    have hc : (s.ev x).cells[j]? = some ((s.ev x).cells[j]'hjl) := List.getElem?_eq_getElem _
    obtain ⟨v, h1, h2⟩ := hreps.at_ hc
    rw [hj] at h1
    obtain rfl := Option.some.inj h1
    exact okCell_one (hokc _ (List.getElem_mem _)) h2
  refine e_newN R hdst hd (I := []) (ob := .box t (killL [[d]] [[d]] (s.ev x).cells)) (ρ := fun p => p) (fun _ _ _ => rfl) (hdrOf := fun g => .pointer (some ⟨g, 0, none⟩)) (obj := .cells (a.eval x).cells t) (fun w1 => ?_) (fun w' g σ' hw hL hh kp hσ => ?_) (fun _ => .inr ⟨_, rfl, rfl⟩) h2
  · simp [execOp, ho, Instr.box, newVar, newRow]
  · subst hσ
    refine ⟨g, (a.eval x).cells, if_pos rfl, by show newL L _ _ _ _ = _; simp [newL], hh, by rw [length_killL, ← hreps.len]; simp, RepCs.of fun j c hj => ?_⟩
    obtain ⟨c0, h3, rfl⟩ := mem_killL hj
    obtain ⟨u, h4, h5⟩ := hreps.at_ h3
    refine ⟨u, ?_, hone u (List.mem_of_getElem? h4), Rep.keep kp _ _ h5⟩
    show w'.cell? _ = _
    unfold World.cell?
    rw [show w'.heap[g]? = _ from hh]
    simpa using h4
theorem e_box {o : Oper} {t : TypeId} {x : Operand} (ho : o.op = .box t x) (hd : dOk n o.dst) (R : RelC W0 S F n L m s a w) (h : opE P H o.dst (.box t x) s K) : ES true P W0 S F n K o a w := (n_box ho hd R h).es R
theorem n_make {o : Oper} {T : TypeId} {x y : Operand} (ho : o.op = .makeSlice T x y) (hd : dOk n o.dst) (R : RelC W0 S F n L m s a w) (h : opE P H o.dst (.makeSlice T x y) s K) : NS P W0 S F n K o L a w := by
  obtain ⟨⟨e, sz, by_⟩, ht, h1⟩ := onSome.elim (show onSome _ _ from h)
  obtain ⟨z, hz, h1⟩ := onSome.elim h1
  obtain ⟨d, hdst, h1⟩ := onSome.elim h1
  obtain ⟨kl, l, hl, h1⟩ := onInt.elim h1
  obtain ⟨kc, c, hc, h1⟩ := onInt.elim h1
  obtain ⟨⟨h0, hlc, hby, hpos⟩, h2⟩ := h1
  have hx := R.ev x
  have hy := R.ev y
  rw [hl] at hx
  rw [hc] at hy
  obtain ⟨i, v, hi, hv, hsz, rfl, hone⟩ := zeroC_run hz
  obtain ⟨i', hu, hi', rfl, rfl⟩ := elTy_run ht
  simp only at hi
  rw [hi] at hi'
  obtain rfl := Option.some.inj hi'
  have hby' : (i.bytes : Int) * c ≤ 140737488355328 := by rw [Int.mul_comm]; exact hby
  have hpos' : (1 : Int) ≤ i.bytes := by have : 0 < i.bytes := hpos; omega
  have hcb : c ≤ 140737488355328 := by
    have : 1 * c ≤ (i.bytes : Int) * c := Int.mul_le_mul_of_nonneg_right hpos' (by omega)
    omega
  have hrun := fun w1 => run_make (P := P) w1 T e i v hu hi hv kl kc l c h0 hlc (by omega) (by omega)
  refine e_newN R hdst hd (I := []) (ob := .row e i.size (List.replicate l.toNat (nilL (cty P e) (v.cells.toList.map .v)))) (ρ := fun p => p) (fun _ _ _ => rfl) (hdrOf := fun g => .slice (some ⟨g, 0, none⟩) l.toNat c.toNat) (obj := .cells (madeCells v.cells (c.toNat * i.size)) e) (fun w1 => ?_) (fun w' g σ' hw hL hh kp hσ => ?_) (fun _ => .inl ⟨rfl, trivial⟩) h2
  · simp only [execOp, ho, hx.1, hy.1, Sem.run_bind, hrun w1]; rfl
  · refine ⟨some ⟨g, 0, none⟩, c.toNat, by rw [List.length_replicate]; exact if_pos rfl, .inr ⟨g, 0, madeCells v.cells (c.toNat * i.size), (0, 0), 0, rfl, by show newL L _ _ _ _ = _; simp [newL], hh, by rw [List.length_replicate]; omega, by rw [size_madeCells]; omega, fun j _ hj => by simp at hj, by rw [List.length_replicate, BIG_eq]; omega, RepEls.of fun i' cs hcs => ?_⟩⟩
    obtain ⟨hi1, rfl⟩ := List.getElem?_eq_some_iff.1 hcs
    rw [List.length_replicate] at hi1
    rw [List.getElem_replicate]
    refine ⟨by rw [nilL_length]; simpa using hsz, RepCs.of fun j c' hj => ?_⟩
    obtain ⟨ty, u, h3, rfl⟩ := nilL_at hj
    rw [List.getElem?_map] at h3
    obtain ⟨u', hu', rfl⟩ := Option.map_eq_some_iff.1 h3
    have hjl : j < i.size := by
      have := (List.getElem?_eq_some_iff.1 hu').1
      simp at this; omega
    refine ⟨u', ?_, hone u' (List.mem_of_getElem? hu'), rep_nilC (rep_v (hone u' (List.mem_of_getElem? hu'))) ty⟩
    show w'.cell? _ = _
    unfold World.cell?
    rw [show w'.heap[g]? = _ from hh]
    have hlt : i' * i.size + j < c.toNat * i.size := by
      have : (i' + 1) * i.size ≤ c.toNat * i.size := Nat.mul_le_mul_right _ (by omega)
      rw [Nat.add_mul] at this
      omega
    have hmod : (i' * i.size + j) % v.cells.size = j := by rw [hsz, Nat.add_comm, Nat.add_mul_mod_self_right, Nat.mod_eq_of_lt hjl]
    have hget : v.cells[j]! = u' := by
      have : v.cells[j]? = some u' := by simpa using hu'
      simp [getElem!_def, this]
    simp [madeCells, hlt, hmod, hget]
theorem e_make {o : Oper} {T : TypeId} {x y : Operand} (ho : o.op = .makeSlice T x y) (hd : dOk n o.dst) (R : RelC W0 S F n L m s a w) (h : opE P H o.dst (.makeSlice T x y) s K) : ES true P W0 S F n K o a w := (n_make ho hd R h).es R
theorem RepVs.of {C : Cx} {cl : Bool} {md : Md} : ∀ {cs : List AV} {vs : List Value} {q : Nat}, vs.length = cs.length → (∀ (j : Nat) c, cs[j]? = some c → ∃ y, vs[j]? = some y ∧ Rep C cl (md.sub (q + j)) c y) → RepVs C cl md q cs vs
  | [], vs, q, hl, _ => List.eq_nil_of_length_eq_zero hl
  | c :: cs, [], q, hl, _ => by simp at hl
  | c :: cs, v :: vs, q, hl, h => by
    obtain ⟨y, h1, h2⟩ := h 0 c (by simp)
    obtain rfl : v = y := by simpa using h1
    refine ⟨v, vs, rfl, by simpa using h2, RepVs.of (by simpa using hl) fun j c' hj => ?_⟩
    obtain ⟨y, h1, h2⟩ := h (j + 1) c' (by simpa using hj)
    exact ⟨y, by simpa using h1, by rwa [show q + 1 + j = q + (j + 1) by omega]⟩
theorem bldTy_st {T : TypeId} {l : List (Nat × Nat)} (h : bldTy P T = some (.st l)) : ∃ fs, P.underlying T = some (.struct fs) ∧ fs.toList.mapM (fun f => (P.info? f.type).map fun i => (f.offset, i.size)) = some l := by
  unfold bldTy at h
  split at h
  · rename_i fs hu
    obtain ⟨l', h1, h2⟩ := Option.map_eq_some_iff.1 h
    injection h2 with h2
    subst h2
    exact ⟨fs, hu, h1⟩
  · obtain ⟨l', h1, h2⟩ := Option.map_eq_some_iff.1 h
    cases h2
  · cases h
theorem bldTy_ar {T : TypeId} {sz : Nat} (h : bldTy P T = some (.ar sz)) : ∃ n e i, P.underlying T = some (.array n e) ∧ P.info? e = some i ∧ i.size = sz := by
  unfold bldTy at h
  split at h
  · obtain ⟨l', h1, h2⟩ := Option.map_eq_some_iff.1 h
    cases h2
  · rename_i n e hu
    obtain ⟨l', h1, h2⟩ := Option.map_eq_some_iff.1 h
    injection h2 with h2
    exact ⟨n, e, l', hu, h1, h2⟩
  · cases h
theorem places_run : ∀ {fs : List Field} {l : List (Nat × Nat)}, fs.mapM (fun f => (P.info? f.type).map fun i => (f.offset, i.size)) = some l → ∀ w : World, (fs.mapM fun f => do Pure.pure (f.offset, ← sizeOf f.type) : Sem (List (Nat × Nat))).run P w = .ok l w
  | [], l, h, w => by simp at h; subst h; simp
  | f :: fs, l, h, w => by
    rw [List.mapM_cons] at h
    cases h1 : P.info? f.type with
    | none => rw [h1] at h; simp at h
    | some i =>
      rw [h1] at h
      cases h2 : fs.mapM (fun f => (P.info? f.type).map fun i => (f.offset, i.size)) with
      | none => rw [h2] at h; simp at h
      | some l' =>
        rw [h2] at h
        simp at h
        subst h
        have := places_run h2 w
        simp [List.mapM_cons, sizeOf, typeInfo, h1] at this ⊢
        simp [this]
theorem fill_sound (R : RelC W0 S F n L m s a w) {b : Bld} {pl : Nat → Option (Nat × Nat)} (hpl : ∀ i, pl i = b.at i) : ∀ {l : List (Nat × Operand)} {cs cs' : List AV} {vs : Array Value}, fillE s b cs l = some cs' → RepVs (cx w S F L m s.σ) false (.read .ent) 0 cs vs.toList →
    ∃ vs' : Array Value, Instr.fill pl vs (l.map fun x => (x.1, a.eval x.2)) = some vs' ∧ vs'.size = vs.size ∧ RepVs (cx w S F L m s.σ) false (.read .ent) 0 cs' vs'.toList
  | [], cs, cs', vs, h, hr => by obtain rfl := Option.some.inj h; exact ⟨vs, rfl, rfl, hr⟩
  | x :: l, cs, cs', vs, h, hr => by
    simp only [fillE] at h
    obtain ⟨⟨off, sz⟩, hb, h⟩ := bindO_eq h
    cases hc : (okCells (s.ev x.2).cells sz && Nat.ble (off + sz) cs.length) <;> simp only [hc] at h
    · cases h
    · simp only [okCells, Bool.and_eq_true, beq_iff_eq] at hc
      obtain ⟨⟨hlen, hok⟩, hle⟩ := hc
      have hle : off + sz ≤ cs.length := Nat.le_of_ble_eq_true hle
      have hrx := cells_rep (R.ev x.2) (fun c hc => okCell_box (List.all_eq_true.1 hok c hc))
      have hxl : (a.eval x.2).cells.size = sz := by simpa [hlen] using hrx.len
      have hvl : vs.size = cs.length := by simpa using hr.len
      obtain ⟨g1, g2⟩ := Great.foldl_set off (a.eval x.2).cells.toList 0 vs
      have e0 : (a.eval x.2).cells.zipIdx.foldl (fun cs (x : Value × Nat) => cs.setIfInBounds (off + x.2) x.1) vs = ((a.eval x.2).cells.toList.zipIdx 0).foldl (fun cs (x : Value × Nat) => cs.setIfInBounds (off + x.2) x.1) vs := by
        rw [← Array.foldl_toList, Array.toList_zipIdx]
      have hr' : RepVs (cx w S F L m s.σ) false (.read .ent) 0 (setAt (s.ev x.2).cells off cs) (((a.eval x.2).cells.toList.zipIdx 0).foldl (fun cs (x : Value × Nat) => cs.setIfInBounds (off + x.2) x.1) vs).toList := by
        refine RepVs.of (by rw [setAt_length]; simp [g1, hvl]) fun j c hj => ?_
        have hjl := (List.getElem?_eq_some_iff.1 hj).1
        rw [setAt_length] at hjl
        have hg := g2 j
        rcases setAt_at hj with ⟨h1, h2⟩ | ⟨h1, h2⟩
        · obtain ⟨u, h3, h4⟩ := hrx.at_ h2
          have h5 := (List.getElem?_eq_some_iff.1 h2).1
          rw [if_pos ⟨by omega, by simp [hxl]; omega, by omega⟩] at hg
          refine ⟨u, ?_, h4⟩
          rw [← h3, Array.getElem?_toList, hg, Nat.add_zero]
        · obtain ⟨u, h3, h4⟩ := hr.at_ h2
          rw [if_neg (by simp [hxl]; omega)] at hg
          refine ⟨u, ?_, h4⟩
          rw [← h3, Array.getElem?_toList, hg]
          simp
      obtain ⟨vs', h1, h2, h3⟩ := fill_sound R hpl h hr'
      refine ⟨vs', ?_, h2.trans g1, h3⟩
      rw [List.map_cons, Instr.fill, hpl x.1, hb]
      simp only
      rw [if_neg (by simp [hxl]; omega), e0]
      exact h1
theorem q_build {mf : Bool} {o : Oper} {T : TypeId} {ps : Array (Nat × Operand)} (ho : o.op = .build T ps) (hd : dOk n o.dst) (R : RelC W0 S F n L m s a w) (h : opE P H o.dst (.build T ps) s K) : QS mf P W0 S F n K o a w := by
  obtain ⟨b, hb, h1⟩ := onSome.elim (show onSome _ _ from h)
  obtain ⟨z, hz, h1⟩ := onSome.elim h1
  obtain ⟨cs, hcs, h2⟩ := onSome.elim h1
  obtain ⟨i, v, hi, hv, hsz, rfl, hone⟩ := zeroC_run hz
  have hz0 : RepVs (cx w S F L m s.σ) false (.read .ent) 0 (v.cells.toList.map .v) v.cells.toList := repVs_v _ _ _ hone
  cases b with
  | st l =>
    obtain ⟨fs, hu, hl⟩ := bldTy_st hb
    obtain ⟨vs', g1, g2, g3⟩ := fill_sound R (pl := fun i => l[i]?) (b := .st l) (fun i => rfl) hcs hz0
    refine QS.of R hd (v := .agg vs') (x := .agg cs) (fun w' _ => ?_) ⟨vs', rfl, g3⟩ h2
    have hp := places_run hl w'
    have hp' : (fs.mapM fun f => do Pure.pure (f.offset, ← sizeOf f.type) : Sem (Array (Nat × Nat))).run P w' = .ok l.toArray w' := by
      rw [← Array.toArray_toList (xs := fs), List.mapM_toArray]
      simp only [Sem.run_map, hp]
      rfl
    simp only [execOp, ho, Instr.build, Sem.run_bind, zeroValue, typeInfo, run_underlying hu]
    simp [hi, hv, run_underlying hu] at hp' ⊢
    simp [hp', g1]
  | ar sz =>
    obtain ⟨m', e, i', hu, hi', rfl⟩ := bldTy_ar hb
    obtain ⟨vs', g1, g2, g3⟩ := fill_sound R (pl := fun j => some (j * i'.size, i'.size)) (b := .ar i'.size) (fun i => rfl) hcs hz0
    refine QS.of R hd (v := .agg vs') (x := .agg cs) (fun w' _ => ?_) ⟨vs', rfl, g3⟩ h2
    simp only [execOp, ho, Instr.build, Sem.run_bind, zeroValue, typeInfo, run_underlying hu]
    simp [hi, hv, run_underlying hu, sizeOf, typeInfo, hi', g1]
theorem quiet_sound {o : Oper} (hq : quietOp o.op = true) (hd : dOk n o.dst) (R : RelC W0 S F n L m s a w) (h : opE P H o.dst o.op s K) : QS (memFree o.op) P W0 S F n K o a w := by
  cases ho : o.op with
  | move x => rw [ho] at h; exact q_move (.inl ho) hd R h
  | assign x => rw [ho] at h; exact q_asg ho hd R h
  | pick c x y => rw [ho] at h; exact q_pick ho hd R h
  | binOp op t x y t' => rw [ho] at h; exact q_bin ho hd R h
  | unOp op t x => rw [ho] at h; exact q_un ho hd R h
  | convert s' d x => rw [ho] at h; exact q_convert ho hd R h
  | indexAddr T x i => rw [ho] at h; exact q_indexAddr ho hd R h
  | build T ps => rw [ho] at h; exact q_build ho hd R h
  | load T x => rw [ho] at h; exact q_load ho hd R h
  | fieldAddr S' x j => rw [ho] at h; exact q_fieldAddr ho hd R h
  | field S' x j => rw [ho] at h; exact q_field ho hd R h
  | slice T x lo hi mx =>
    rw [ho] at h
    cases mx with
    | none => exact q_slice ho hd R h
    | some _ => exact False.elim h
  | nilCheck x => rw [ho] at h; exact q_nilCheck ho hd R h
  | extract x k => rw [ho] at h; exact q_extract ho hd R h
  | makeFunc f fst caps => rw [ho] at h; exact q_makeFunc ho hd R h
  | makeInterface T x => rw [ho] at h; exact q_makeInterface ho hd R h
  | lookup T x i c => rw [ho] at h; exact q_lookup ho hd R h
  | call c =>
    rw [ho] at hq h
    obtain ⟨callee, args, tys⟩ := c
    have h : callOp P H o.dst ⟨callee, args, tys⟩ s K := h
    unfold callOp at h
    split at h
    · rename_i e
      have e' : callee = _ := e
      subst e'
      simp [quietOp] at hq
    · rename_i e
      have e' : callee = _ := e
      subst e'
      simp [quietOp] at hq
    · rename_i e1 e2 e3
      have e1' : callee = _ := e1
      have e2' : args = _ := e2
      have e3' : tys = _ := e3
      subst e1'; subst e2'; subst e3'; exact q_len ho hd R h
    · rename_i e1 e2 e3
      have e1' : callee = _ := e1
      have e2' : args = _ := e2
      have e3' : tys = _ := e3
      subst e1'; subst e2'; subst e3'; exact q_cap ho hd R h
    · rename_i e1 e2 e3
      have e1' : callee = _ := e1
      subst e1'; simp [quietOp] at hq
    · rename_i e
      have e' : callee = _ := e
      subst e'
      simp [quietOp] at hq
    · rename_i e1 e2
      have e1' : callee = _ := e1
      have e2' : args = _ := e2
      subst e1'; subst e2'; exact q_min ho hd R h
    · exact h.elim
  | _ => rw [ho] at hq; simp [quietOp] at hq
end
end Go.Ev
