/- The evaluator, part 6: operations that only read. -/
import Derived.Test.YtjmmdlifljlogaaEve
import Derived.WalkSpells
namespace Go.Ev
open Go Go.RowKit

/-! ### what the eliminators say -/
theorem onSome.elim {α : Type} {o : Option α} {k : α → Prop} (h : onSome o k) : ∃ a, o = some a ∧ k a := by
  cases o with
  | none => exact False.elim h
  | some a => exact ⟨a, rfl, h⟩
theorem bindO_eq {α β : Type} {o : Option α} {k : α → Option β} {b : β} (h : bindO o k = some b) : ∃ a, o = some a ∧ k a = some b := by
  cases o with
  | none => cases h
  | some a => exact ⟨a, rfl, h⟩
theorem sel_eq_some {α : Type} {t : Bool} {a b : α} (h : sel t (some a) none = some b) : t = true ∧ a = b := by
  cases t with
  | true => exact ⟨rfl, Option.some.inj h⟩
  | false => cases h
theorem onInt.elim {a : AV} {k : Int → Prop} (h : onInt a k) : ∃ q n, a = .v (.int q n) ∧ k n := by
  unfold onInt at h
  split at h
  · exact ⟨_, _, rfl, h⟩
  · exact False.elim h
theorem onBool.elim {a : AV} {k : Bool → Prop} (h : onBool a k) : ∃ b, a = .v (.bool b) ∧ k b := by
  unfold onBool at h
  split at h
  · exact ⟨_, rfl, h⟩
  · exact False.elim h
theorem onAdr.elim {a : AV} {kr : Org → Nat → Nat → List (List AV) → Nat → Nat → Prop} {kp : Id → Nat → Nat → Nat → Prop} (h : onAdr a kr kp) :
    (∃ o e sz els i k, a = .rp o e sz els i k ∧ kr o e sz els i k) ∨ ∃ id sz i k, a = .ptr id sz i k ∧ kp id sz i k := by
  unfold onAdr at h
  split at h
  · exact .inl ⟨_, _, _, _, _, _, rfl, h⟩
  · exact .inr ⟨_, _, _, _, rfl, h⟩
  · exact False.elim h
theorem onOB.elim {o : Option OB} {kr : Nat → Nat → List (List AV) → Prop} {kb : Nat → List AV → Prop} (h : onOB o kr kb) :
    (∃ e sz els, o = some (.row e sz els) ∧ kr e sz els) ∨ ∃ t cs, o = some (.box t cs) ∧ kb t cs := by
  unfold onOB at h
  split at h
  · exact .inl ⟨_, _, _, rfl, h⟩
  · exact .inr ⟨_, _, rfl, h⟩
  · exact False.elim h
theorem onRef.elim {a : AV} {kref : Id → Prop} {kstr : ByteArray → Prop} {k : AV → Prop} (h : onRef a kref kstr k) :
    (∃ id, a = .ref id ∧ kref id) ∨ (∃ b, a = .v (.string b) ∧ kstr b) ∨ k a := by
  unfold onRef at h
  split at h
  · exact .inl ⟨_, rfl, h⟩
  · exact .inr (.inl ⟨_, rfl, h⟩)
  · exact .inr (.inr h)

/-! ### memory that shows elements -/
def Shows (C : Cx) (o : Org) (sz : Nat) (els : List (List AV)) (x : Value) : Prop :=
  C.alive o ∧ ∃ A c, x = .slice A els.length c ∧ els.length ≤ c ∧ els.length ≤ BIG ∧ (els = [] ∨ ∃ b off, A = some ⟨b, off, none⟩ ∧ C.st o b ∧ RepEls C (.read o) b off 0 sz els)

theorem Stays.refl (C : Cx) : Stays C C := ⟨fun _ h => ⟨h, rfl⟩, fun _ h => ⟨h, rfl⟩⟩
section
variable {P : Program} {H : Nat → Nat} {W0 : World} {S F : Nat → Prop} {n : Nat} {L : Nat → Option Id} {m : Id → Value} {s : St} {a : Act} {w : World} {K : St → Prop}

theorem RelC.live {id : Id} {ob : OB} (h : s.σ id = some ob) : (cx w S F L m s.σ).live id := by show (s.σ id).isSome = true; rw [h]; rfl
theorem RelC.toRead {id : Id} (hl : (cx w S F L m s.σ).live id) : Tr (cx w S F L m s.σ) (cx w S F L m s.σ) (.own id) (.read (.obj id)) := ⟨hl, fun _ q h => ⟨⟨q, h⟩, rfl⟩⟩
theorem RelC.row (R : RelC W0 S F n L m s a w) {id : Id} {e sz : Nat} {els : List (List AV)} (h : s.σ id = some (.row e sz els)) : Shows (cx w S F L m s.σ) (.obj id) sz els (m id) :=
  Rep.tr (Stays.refl _) (RelC.toRead (RelC.live h)) (.row e sz els) _ (R.obj id _ h)
theorem RelC.sl (R : RelC W0 S F n L m s a w) {sz : Nat} {av : AV} {o : Org} {els : List (List AV)} {x : Value} (h : s.sl sz av = some (o, els)) (hr : Rep (cx w S F L m s.σ) false (.read .ent) av x) : Shows (cx w S F L m s.σ) o sz els x := by
  cases av with
  | rd o' e' sz' els' =>
    obtain ⟨h1, h2⟩ := sel_eq_some h
    cases h2
    obtain rfl : sz' = sz := by simpa using h1
    exact hr.2
  | ref id =>
    simp only [St.sl] at h
    unfold rowOf at h
    split at h
    · rename_i e' sz' els' hs
      obtain ⟨h1, h2⟩ := sel_eq_some h
      cases h2
      obtain rfl : sz' = sz := by simpa using h1
      rw [show x = m id from hr.2.2.2]
      exact R.row hs
    · cases h
  | v u =>
    simp only [St.sl] at h
    unfold nilV at h
    split at h
    · cases h
      rw [hr.1]
      exact ⟨trivial, none, 0, rfl, Nat.le_refl _, Nat.zero_le _, .inl rfl⟩
    · cases h
  | _ => cases h

theorem RepEls.at_ {C : Cx} {md : Md} {b sz : Nat} : ∀ {els : List (List AV)} {off q i : Nat} {cs : List AV}, RepEls C md b off q sz els → els[i]? = some cs → cs.length = sz ∧ RepCs C true md b (off + i * sz) (q + i * sz) cs
  | [], _, _, _, _, _, h => by simp at h
  | e :: es, off, q, 0, cs, h, hi => by
    obtain rfl : e = cs := by simpa using hi
    exact ⟨h.1, by simpa using h.2.1⟩
  | e :: es, off, q, i + 1, cs, h, hi => by
    have := RepEls.at_ (i := i) h.2.2 (by simpa using hi)
    rw [Nat.add_assoc, Nat.add_assoc, show sz + i * sz = (i + 1) * sz by rw [Nat.add_mul, Nat.one_mul, Nat.add_comm]] at this
    exact this
theorem RepCs.at_ {C : Cx} {cl : Bool} {md : Md} {b : Nat} : ∀ {cs : List AV} {off q k : Nat} {c : AV}, RepCs C cl md b off q cs → cs[k]? = some c → ∃ y, C.w.cell? ⟨b, off + k, none⟩ = some y ∧ one y ∧ Rep C cl (md.sub (q + k)) c y
  | [], _, _, _, _, _, h => by simp at h
  | e :: es, off, q, 0, c, h, hi => by
    obtain rfl : e = c := by simpa using hi
    exact h.1
  | e :: es, off, q, k + 1, c, h, hi => by
    have := RepCs.at_ (k := k) h.2 (by simpa using hi)
    rw [show off + 1 + k = off + (k + 1) by omega, show q + 1 + k = q + (k + 1) by omega] at this
    exact this
theorem RepCs.drop {C : Cx} {cl : Bool} {md : Md} {b : Nat} : ∀ (k : Nat) {cs : List AV} {off q : Nat}, RepCs C cl md b off q cs → RepCs C cl md b (off + k) (q + k) (cs.drop k)
  | 0, cs, _, _, h => by simpa using h
  | k + 1, [], _, _, _ => trivial
  | k + 1, c :: cs, off, q, h => by
    have := RepCs.drop k h.2
    rw [show off + (k + 1) = off + 1 + k by omega, show q + (k + 1) = q + 1 + k by omega]
    exact this
theorem RepCs.take {C : Cx} {cl : Bool} {md : Md} {b : Nat} : ∀ (k : Nat) {cs : List AV} {off q : Nat}, RepCs C cl md b off q cs → RepCs C cl md b off q (cs.take k)
  | 0, cs, _, _, _ => by rw [List.take_zero]; trivial
  | k + 1, [], _, _, _ => trivial
  | k + 1, c :: cs, off, q, h => ⟨h.1, RepCs.take k h.2⟩

/-- A cell that is read, as a value of the frame's. -/
theorem rep_asrd {C : Cx} {o : Org} {c : AV} {y : Value} (h1 : one y) (h : Rep C true (.read o) c y) : Rep C false (.read .ent) (c.asrd o) y := by
  cases c with
  | any => trivial
  | v u => exact h
  | row e sz els => exact ⟨by simp, h⟩
  | rd o' e sz els => exact ⟨by simp, h.2⟩
  | rp => exact absurd h.1 (by simp)
  | ref => exact absurd h.1 (by simp)
  | ptr => exact absurd h.1 (by simp)
  | agg cs => obtain ⟨vs, rfl, _⟩ := h; exact h1.elim
  | tup cs => obtain ⟨vs, rfl, _⟩ := h; exact h1.elim

/-- Cells side by side in memory, as values. -/
theorem RepCs.vals {C : Cx} {cl cl' : Bool} {md md' : Md} {b : Nat} {f : AV → AV} (hf : ∀ q c y, one y → Rep C cl (md.sub q) c y → Rep C cl' md' (f c) y) (hm : ∀ q, md'.sub q = md') : ∀ {cs : List AV} {off q q' : Nat}, RepCs C cl md b off q cs →
    ∃ vs : List Value, vs.length = cs.length ∧ (∀ j v, vs[j]? = some v → C.w.cell? ⟨b, off + j, none⟩ = some v ∧ one v) ∧ RepVs C cl' md' q' (cs.map f) vs
  | [], off, q, q', _ => ⟨[], rfl, fun j v h => by simp at h, rfl⟩
  | c :: cs, off, q, q', h => by
    obtain ⟨⟨y, h1, h2, h3⟩, h4⟩ := h
    obtain ⟨vs, g1, g2, g3⟩ := RepCs.vals hf hm (q' := q' + 1) h4
    refine ⟨y :: vs, by simp [g1], fun j v hj => ?_, y, vs, rfl, by rw [hm]; exact hf _ _ _ h2 h3, g3⟩
    cases j with
    | zero => obtain rfl : y = v := by simpa using hj
              exact ⟨h1, h2⟩
    | succ j => have := g2 j v (by simpa using hj)
                rwa [show off + (j + 1) = off + 1 + j by omega]

/-! ### runs -/
theorem tySz_run {T : TypeId} {k : Nat} {g : Bool} (h : tySz P T = some (k, g)) (w : World) : (isAgg T).run P w = .ok g w ∧ (sizeOf T).run P w = .ok k w ∧ (P.info? T).map (·.size) = some k := by
  unfold tySz at h
  split at h
  · rename_i i d hi hd
    simp only [Option.some.injEq, Prod.mk.injEq] at h
    obtain ⟨rfl, rfl⟩ := h
    refine ⟨?_, by simp [sizeOf, typeInfo, hi], by simp [hi]⟩
    simp only [isAgg, Sem.run_bind, run_underlying hd, Result.andThen_ok]
    cases d <;> rfl
  · cases h
theorem add_none (b o k : Nat) : (⟨b, o, none⟩ : Addr).add k = ⟨b, o + k, none⟩ := by unfold Addr.add; split <;> simp_all
theorem run_loadAt_agg {T : TypeId} {k : Nat} (h : tySz P T = some (k, true)) {w : World} {b o : Nat} {vs : List Value} (hl : vs.length = k) (hv : ∀ j v, vs[j]? = some v → w.cell? ⟨b, o + j, none⟩ = some v) :
    (Instr.loadAt T (.pointer (some ⟨b, o, none⟩))).run P w = .ok (.agg vs.toArray) w := by
  obtain ⟨h1, h2, _⟩ := tySz_run h w
  have h3 := run_loadCells_list (P := P) w ⟨b, o, none⟩ vs (fun j v hj => by rw [add_none]; exact hv j v hj)
  rw [hl] at h3
  simp [Instr.loadAt, Instr.sureAddr, loadVar, h1, h2, h3]
theorem run_loadAt_one {T : TypeId} {k : Nat} (h : tySz P T = some (k, false)) {w : World} {b o : Nat} {v : Value} (hv : w.cell? ⟨b, o, none⟩ = some v) :
    (Instr.loadAt T (.pointer (some ⟨b, o, none⟩))).run P w = .ok v w := by
  obtain ⟨h1, h2, _⟩ := tySz_run h w
  simp [Instr.loadAt, Instr.sureAddr, loadVar, h1, hv]
theorem run_load_cut {T : TypeId} {k : Nat} {g : Bool} (h : tySz P T = some (k, g)) {C : Cx} {cl cl' : Bool} {md : Md} {b off q j : Nat} {cs : List AV} (hc : RepCs C cl md b off q cs) {f : AV → AV} {x : AV} (hx : cut g k j cs f = some x)
    (hf : ∀ q c y, one y → Rep C cl (md.sub q) c y → Rep C cl' (.read .ent) (f c) y) : ∃ v, (Instr.loadAt T (.pointer (some ⟨b, off + j, none⟩))).run P C.w = .ok v C.w ∧ Rep C cl' (.read .ent) x v := by
  unfold cut at hx
  cases g with
  | true =>
    obtain ⟨h1, rfl⟩ := sel_eq_some (show sel (Nat.ble (j + k) cs.length) _ none = some x from hx)
    have hlen : j + k ≤ cs.length := Nat.le_of_ble_eq_true h1
    obtain ⟨vs, g1, g2, g3⟩ := RepCs.vals (q' := 0) hf (fun _ => rfl) ((hc.drop j).take k)
    refine ⟨.agg vs.toArray, run_loadAt_agg h (by rw [g1, List.length_take, List.length_drop]; omega) (fun i v hi => (g2 i v hi).1), vs.toArray, rfl, by simpa using g3⟩
  | false =>
    obtain ⟨c, hc', rfl⟩ := Option.map_eq_some_iff.1 (show (cs[j]?).map f = some x from hx)
    obtain ⟨y, h1, h2, h3⟩ := hc.at_ hc'
    exact ⟨y, run_loadAt_one h h1, hf _ _ _ h2 h3⟩

def QS (P : Program) (W0 : World) (S F : Nat → Prop) (n : Nat) (K : St → Prop) (o : Oper) (a : Act) (w : World) : Prop :=
  ∃ v s', (execOp a.eval o).run P w = .ok (.value v) w ∧ Rel W0 S F n s' (a.put o.dst v) w ∧ K s'
theorem QS.of {o : Oper} (R : RelC W0 S F n L m s a w) (hd : dOk n o.dst) {v : Value} (hr : (execOp a.eval o).run P w = .ok (.value v) w) {x : AV} (hx : Rep (cx w S F L m s.σ) false (.read .ent) x v) (hk : K (s.put o.dst x)) : QS P W0 S F n K o a w :=
  ⟨v, _, hr, ⟨L, m, R.put hd hx⟩, hk⟩

theorem q_load {o : Oper} {T : TypeId} {x : Operand} (ho : o.op = .load T x) (hd : dOk n o.dst) (R : RelC W0 S F n L m s a w) (h : opE P H o.dst (.load T x) s K) : QS P W0 S F n K o a w := by
  have hx := R.ev x
  obtain ⟨⟨k, g⟩, ht, h1⟩ := onSome.elim (show onSome _ _ from h)
  clear h
  have h := onAdr.elim h1
  clear h1
  rcases h with ⟨r, e, sz, els, i, j, hv, h⟩ | ⟨id, sz, i, j, hv, h⟩
  · rw [hv] at hx
    obtain ⟨cs, hcs, h⟩ := onSome.elim h
    obtain ⟨y, hy, h⟩ := onSome.elim h
    obtain ⟨_, ha, b, off, he, hb, hE⟩ := hx
    obtain ⟨_, hC⟩ := hE.at_ hcs
    obtain ⟨v, hrun, hrep⟩ := run_load_cut (P := P) ht hC (cl' := false) hy (fun q c y h1 h2 => rep_asrd h1 h2)
    refine QS.of R hd (v := v) ?_ hrep h
    simp only [execOp, ho, he, Sem.run_bind]
    rw [show (cx w S F L m s.σ).w = w from rfl] at hrun
    rw [hrun]; rfl
  · rw [hv] at hx
    obtain ⟨_, hl, g', off, hg, he⟩ := hx
    replace h := onOB.elim h
    rcases h with ⟨e', sz', els, hs, h⟩ | ⟨t, cs, hs, h⟩
    · obtain ⟨rfl, h⟩ := h
      obtain ⟨cs, hcs, h⟩ := onSome.elim h
      obtain ⟨y, hy, h⟩ := onSome.elim h
      obtain ⟨_, A, c, hm, _, _, hE⟩ := R.row hs
      rw [show (cx w S F L m s.σ).m id = m id from rfl, hm] at hg
      rcases hE with rfl | ⟨b, off', rfl, hb, hE⟩
      · simp at hcs
      · simp only [hdrAddr, Option.some.injEq, Addr.mk.injEq] at hg
        obtain ⟨rfl, rfl, _⟩ := hg
        obtain ⟨_, hC⟩ := hE.at_ hcs
        obtain ⟨v, hrun, hrep⟩ := run_load_cut (P := P) ht hC (cl' := false) hy (fun q c y h1 h2 => rep_asrd h1 h2)
        refine QS.of R hd (v := v) ?_ hrep h
        simp only [execOp, ho, he, Sem.run_bind]
        rw [show (cx w S F L m s.σ).w = w from rfl] at hrun
        rw [hrun]; rfl
    · obtain ⟨rfl, h⟩ := h
      obtain ⟨y, hy, h⟩ := onSome.elim h
      obtain ⟨g2, arr, h1, h2, h3, h4, h5⟩ := R.obj id _ hs
      rw [show (cx w S F L m s.σ).m id = m id from rfl] at h1 hg
      rw [h1] at hg
      simp only [hdrAddr, Option.some.injEq, Addr.mk.injEq] at hg
      obtain ⟨rfl, rfl, _⟩ := hg
      obtain ⟨v, hrun, hrep⟩ := run_load_cut (P := P) ht h5 (cl' := false) hy (fun q c y _ h2 => h2)
      refine QS.of R hd (v := v) ?_ hrep h
      simp only [execOp, ho, he, Sem.run_bind]
      rw [show (cx w S F L m s.σ).w = w from rfl] at hrun
      simp only [Nat.zero_mul, Nat.add_zero]
      rw [hrun]; rfl

theorem q_move {o : Oper} {x : Operand} (ho : o.op = .move x ∨ o.op = .assign x) (hd : dOk n o.dst) (R : RelC W0 S F n L m s a w) (h : K (s.put o.dst (s.ev x))) : QS P W0 S F n K o a w :=
  QS.of R hd (v := a.eval x) (by rcases ho with ho | ho <;> simp [execOp, ho]) (R.ev x) h
theorem q_pick {o : Oper} {c x y : Operand} (ho : o.op = .pick c x y) (hd : dOk n o.dst) (R : RelC W0 S F n L m s a w) (h : opE P H o.dst (.pick c x y) s K) : QS P W0 S F n K o a w := by
  obtain ⟨t, ht, h1⟩ := onBool.elim (show onBool _ _ from h)
  have hc := R.ev c
  rw [ht] at hc
  have hc : a.eval c = .bool t := hc.1
  cases t with
  | true => exact QS.of R hd (v := a.eval x) (by simp [execOp, ho, hc, asBool]) (R.ev x) (h1.1 rfl)
  | false => exact QS.of R hd (v := a.eval y) (by simp [execOp, ho, hc, asBool]) (R.ev y) (h1.2 rfl)

theorem bEq_str (a b : ByteArray) : (a.toList == b.toList) = decide (a = b) := by
  rw [Bool.eq_iff_iff]
  simp only [beq_iff_eq, decide_eq_true_eq]
  constructor
  · intro h
    have h1 : a.data.toList = b.data.toList := by simpa [ByteArray.toList_eq] using h
    cases a; cases b
    simp only [Array.toList_inj] at h1
    rw [h1]
  · rintro rfl; rfl
theorem eqGuard_int (op : BinOp) (t : TypeId) (x y : Operand) (k : IntKind) (n : Int) (v : Value) (w : World) : (eqGuard op t x y (.int k n) v).run P w = .ok () w := by cases op <;> rfl
theorem eqGuard_str (op : BinOp) (t : TypeId) (x y : Operand) (b : ByteArray) (v : Value) (w : World) : (eqGuard op t x y (.string b) v).run P w = .ok () w := by cases op <;> rfl
theorem intE_run {op : BinOp} {t : TypeId} {k k' : IntKind} {x y : Int} {K' : Value → Prop} (h : intE op k x k' y K') (w : World) : ∃ u, (binOp op t (.int k x) (.int k' y)).run P w = .ok u w ∧ one u ∧ K' u := by
  cases op
  all_goals simp only [intE] at h
  all_goals first
    | (obtain ⟨rfl, h1, h2⟩ := h
       refine ⟨_, ?_, ?_, h2⟩
       · simp only [binOp, ne_eq, not_true_eq_false, if_false, Op.intDiv, if_neg h1]; rfl
       · trivial)
    | (obtain ⟨rfl, h2⟩ := h
       refine ⟨_, ?_, ?_, h2⟩
       · simp only [binOp, ne_eq, not_true_eq_false, if_false]; rfl
       · trivial)
    | (obtain ⟨h1, h2⟩ := h
       refine ⟨_, ?_, ?_, h2⟩
       · simp only [binOp, Op.shift, if_neg (Int.not_lt.2 h1)]; rfl
       · trivial)
theorem q_bin {o : Oper} {op : BinOp} {t t' : TypeId} {x y : Operand} (ho : o.op = .binOp op t x y t') (hd : dOk n o.dst) (R : RelC W0 S F n L m s a w) (h : opE P H o.dst (.binOp op t x y t') s K) : QS P W0 S F n K o a w := by
  have hx := R.ev x
  have hy := R.ev y
  have h : binE op (s.ev x) (s.ev y) (fun u => K (s.put o.dst (.v u))) := h
  unfold binE at h
  split at h
  · rename_i e1 e2
    rw [e1] at hx
    rw [e2] at hy
    obtain ⟨u, h1, h2, h3⟩ := intE_run (P := P) (t := t) h w
    refine QS.of R hd (v := u) ?_ (rep_v h2) h3
    rw [← hx.1, ← hy.1] at h1
    simp only [execOp, ho, Sem.run_bind]
    rw [hx.1, hy.1] at h1 ⊢
    simp [eqGuard_int, h1]
  · rename_i a' b' e1 e2
    rw [e1] at hx
    rw [e2] at hy
    have key : ∀ u : Value, (binOp op t (.string a') (.string b')).run P w = .ok u w → one u → K (s.put o.dst (.v u)) → QS P W0 S F n K o a w := fun u h1 h2 h3 => by
      refine QS.of R hd (v := u) ?_ (rep_v h2) h3
      simp only [execOp, ho, Sem.run_bind, hx.1, hy.1]
      simp [eqGuard_str, h1]
    cases op <;> simp only [strE] at h
    · exact key (.bool (decide (a' = b'))) (by simp [binOp, Op.stringOp, bEq_str]) trivial h
    · exact key (.bool (!decide (a' = b'))) (by simp [binOp, Op.stringOp, bEq_str]) trivial h
  · exact h.elim
theorem q_un {o : Oper} {op : UnOp} {t : TypeId} {x : Operand} (ho : o.op = .unOp op t x) (hd : dOk n o.dst) (R : RelC W0 S F n L m s a w) (h : opE P H o.dst (.unOp op t x) s K) : QS P W0 S F n K o a w := by
  have hx := R.ev x
  have h1 : unE op (s.ev x) (fun u => K (s.put o.dst (.v u))) := h
  clear h
  generalize s.ev x = av at h1 hx
  unfold unE at h1
  split at h1
  · rename_i b
    exact QS.of (v := .bool (!b)) R hd (by simp [execOp, ho, hx.1, Op.unary]) (rep_v trivial) h1
  · rename_i k y
    exact QS.of (v := .int k (k.wrap (0 - y))) R hd (by simp [execOp, ho, hx.1, Op.unary, Op.intArith]) (rep_v trivial) h1
  · rename_i k y
    exact QS.of (v := .int k (k.wrap (BitVec.ofInt k.bits (if k.signed then -1 else k.max) ^^^ BitVec.ofInt k.bits y).toNat)) R hd (by simp only [execOp, ho, hx.1, Op.unary, Op.intBits]; rfl) (rep_v trivial) h1
  · exact h1.elim
theorem q_nilCheck {o : Oper} {x : Operand} (ho : o.op = .nilCheck x) (hd : dOk n o.dst) (R : RelC W0 S F n L m s a w) (h : opE P H o.dst (.nilCheck x) s K) : QS P W0 S F n K o a w := by
  have hx := R.ev x
  rcases onAdr.elim (show onAdr _ _ _ from h) with ⟨r, e, sz, els, i, j, hv, h1⟩ | ⟨id, sz, i, j, hv, h1⟩
  · rw [hv] at hx
    have hx' := hx
    obtain ⟨_, _, b, off, he, _⟩ := hx'
    exact QS.of R hd (v := a.eval x) (by simp [execOp, ho, he]) hx h1
  · rw [hv] at hx
    have hx' := hx
    obtain ⟨_, _, b, off, _, he⟩ := hx'
    exact QS.of R hd (v := a.eval x) (by simp [execOp, ho, he]) hx h1
theorem RepVs.at_ {C : Cx} {cl : Bool} {md : Md} : ∀ {cs : List AV} {vs : List Value} {q k : Nat} {c : AV}, RepVs C cl md q cs vs → cs[k]? = some c → ∃ v, vs[k]? = some v ∧ Rep C cl (md.sub (q + k)) c v
  | [], _, _, _, _, _, h => by simp at h
  | e :: es, vs, q, 0, c, h, hi => by
    obtain rfl : e = c := by simpa using hi
    obtain ⟨y, ys, rfl, h1, _⟩ := h
    exact ⟨y, by simp, h1⟩
  | e :: es, vs, q, k + 1, c, h, hi => by
    obtain ⟨y, ys, rfl, _, h2⟩ := h
    obtain ⟨v, g1, g2⟩ := RepVs.at_ (k := k) h2 (by simpa using hi)
    exact ⟨v, by simpa using g1, by rwa [show q + 1 + k = q + (k + 1) by omega] at g2⟩
theorem onTup.elim {a : AV} {k : List AV → Prop} (h : onTup a k) : ∃ cs, a = .tup cs ∧ k cs := by
  unfold onTup at h
  split at h
  · exact ⟨_, rfl, h⟩
  · exact False.elim h
theorem onAgg.elim {a : AV} {k : List AV → Prop} (h : onAgg a k) : ∃ cs, a = .agg cs ∧ k cs := by
  unfold onAgg at h
  split at h
  · exact ⟨_, rfl, h⟩
  · exact False.elim h
theorem q_extract {o : Oper} {x : Operand} {k : Nat} (ho : o.op = .extract x k) (hd : dOk n o.dst) (R : RelC W0 S F n L m s a w) (h : opE P H o.dst (.extract x k) s K) : QS P W0 S F n K o a w := by
  have hx := R.ev x
  obtain ⟨cs, hv, h1⟩ := onTup.elim (show onTup _ _ from h)
  obtain ⟨c, hc, h2⟩ := onSome.elim h1
  rw [hv] at hx
  obtain ⟨vs, he, hr⟩ := hx
  obtain ⟨v, g1, g2⟩ := hr.at_ hc
  refine QS.of R hd (v := v) ?_ g2 h2
  have g1' : vs[k]? = some v := by simpa using g1
  simp [execOp, ho, he, Instr.extract, g1']
theorem fldTy_run {T : TypeId} {j off k : Nat} {g : Bool} (h : fldTy P T j = some (off, k, g)) : ∃ fs f, P.underlying T = some (.struct fs) ∧ fs[j]? = some f ∧ f.offset = off ∧ tySz P f.type = some (k, g) := by
  unfold fldTy at h
  split at h
  · rename_i fs hu
    split at h
    · rename_i f hf
      obtain ⟨⟨k', g'⟩, h1, h2⟩ := Option.map_eq_some_iff.1 h
      simp only [Prod.mk.injEq] at h2
      obtain ⟨rfl, rfl, rfl⟩ := h2
      exact ⟨fs, f, hu, hf, rfl, h1⟩
    · cases h
  · cases h
theorem q_fieldAddr {o : Oper} {T : TypeId} {x : Operand} {j : Nat} (ho : o.op = .fieldAddr T x j) (hd : dOk n o.dst) (R : RelC W0 S F n L m s a w) (h : opE P H o.dst (.fieldAddr T x j) s K) : QS P W0 S F n K o a w := by
  have hx := R.ev x
  obtain ⟨⟨off, k, g⟩, hf, hk, h1⟩ := onSome.elim (show onSome _ _ from h)
  obtain ⟨fs, f, hu, hj, rfl, ht⟩ := fldTy_run hf
  obtain ⟨_, hs, _⟩ := tySz_run ht w
  have hrun : ∀ b o' : Nat, a.eval x = .pointer (some ⟨b, o', none⟩) → (execOp a.eval o).run P w = .ok (.value (.pointer (some ⟨b, o' + f.offset, none⟩))) w := fun b o' he => by
    simp [execOp, ho, he, Instr.fieldAt, run_underlying hu, hj, Instr.sureAddr, fieldPlace, hs, show k ≠ 0 from hk, add_none]
  rcases onAdr.elim h1 with ⟨r, e, sz, els, i, q, hv, h2⟩ | ⟨id, sz, i, q, hv, h2⟩
  · rw [hv] at hx
    obtain ⟨h3, h4, b, off, he, h5⟩ := hx
    exact QS.of (x := .rp r e sz els i (q + f.offset)) R hd (hrun b _ he) ⟨h3, h4, b, off, by rw [Nat.add_assoc (off + i * sz)], h5⟩ h2
  · rw [hv] at hx
    obtain ⟨h3, h4, b, off, h5, he⟩ := hx
    exact QS.of (x := .ptr id sz i (q + f.offset)) R hd (hrun b _ he) ⟨h3, h4, b, off, h5, by rw [Nat.add_assoc (off + i * sz)]⟩ h2
theorem q_field {o : Oper} {T : TypeId} {x : Operand} {j : Nat} (ho : o.op = .field T x j) (hd : dOk n o.dst) (R : RelC W0 S F n L m s a w) (h : opE P H o.dst (.field T x j) s K) : QS P W0 S F n K o a w := by
  have hx := R.ev x
  obtain ⟨⟨off, k, g⟩, hf, h1⟩ := onSome.elim (show onSome _ _ from h)
  obtain ⟨cs, hv, h2⟩ := onAgg.elim h1
  obtain ⟨y, hy, h3⟩ := onSome.elim h2
  obtain ⟨fs, f, hu, hj, rfl, ht⟩ := fldTy_run hf
  obtain ⟨ha, hs, _⟩ := tySz_run ht w
  rw [hv] at hx
  obtain ⟨vs, he, hr⟩ := hx
  have hpart : ∃ v, (part f.type vs f.offset).run P w = .ok v w ∧ Rep (cx w S F L m s.σ) false (.read .ent) y v := by
    unfold cut at hy
    cases g with
    | true =>
      obtain ⟨h4, rfl⟩ := sel_eq_some (show sel (Nat.ble (f.offset + k) cs.length) _ none = some y from hy)
      have hlen : f.offset + k ≤ cs.length := Nat.le_of_ble_eq_true h4
      refine ⟨.agg (vs.extract f.offset (f.offset + k)), by simp [part, ha, hs], _, rfl, ?_⟩
      have hseg : ∀ (cs : List AV) (vs : List Value) (q q' j k : Nat), RepVs (cx w S F L m s.σ) false (.read .ent) q cs vs → RepVs (cx w S F L m s.σ) false (.read .ent) q' ((cs.drop j).take k) ((vs.drop j).take k) := by
        intro cs
        induction cs with
        | nil => intro vs q q' j k h; obtain rfl := h; simp; rfl
        | cons c cs ih =>
          intro vs q q' j k h
          obtain ⟨y, ys, rfl, h1, h2⟩ := h
          cases j with
          | zero =>
            cases k with
            | zero => simp; rfl
            | succ k =>
              have := ih ys (q + 1) (q' + 1) 0 k h2
              simp only [List.drop_zero] at this
              exact ⟨y, _, rfl, h1, this⟩
          | succ j => exact ih ys (q + 1) q' j k h2
      have := hseg cs vs.toList 0 0 f.offset k hr
      simpa [Array.toList_extract, List.extract_eq_drop_take'] using this
    | false =>
      obtain ⟨c, hc', rfl⟩ := Option.map_eq_some_iff.1 (show (cs[f.offset]?).map _ = some y from hy)
      obtain ⟨v, g1, g2⟩ := hr.at_ hc'
      have g1' : vs[f.offset]? = some v := by simpa using g1
      exact ⟨v, by simp [part, ha, g1'], g2⟩
  obtain ⟨v, hv', hrep⟩ := hpart
  refine QS.of R hd (v := v) ?_ hrep h3
  simp [execOp, ho, he, Instr.field, run_underlying hu, hj, asAgg, hv']
theorem elTy_run {T : TypeId} {e sz by_ : Nat} (h : elTy P T = some (e, sz, by_)) : ∃ i, P.underlying T = some (.slice e) ∧ P.info? e = some i ∧ i.size = sz ∧ i.bytes = by_ := by
  unfold elTy at h
  split at h
  · rename_i e' hu
    obtain ⟨i, h1, h2⟩ := Option.map_eq_some_iff.1 h
    simp only [Prod.mk.injEq] at h2
    obtain ⟨rfl, rfl, rfl⟩ := h2
    exact ⟨i, hu, h1, rfl, rfl⟩
  · cases h
theorem run_indexAt {T : TypeId} {e sz by_ : Nat} (h : elTy P T = some (e, sz, by_)) {b o len c : Nat} {k : IntKind} {i : Int} (h0 : 0 ≤ i) (h1 : i < len) (w : World) :
    (Instr.indexAt T (.slice (some ⟨b, o, none⟩) len c) (.int k i)).run P w = .ok (.pointer (some ⟨b, o + i.toNat * sz, none⟩)) w := by
  obtain ⟨t, hu, hi, hs, _⟩ := elTy_run h
  have hel : P.elem T = e := by simp [Program.elem, hu]
  rw [run_indexAt_slice w T ⟨b, o, none⟩ len c k i (by rw [hel]; exact hu), if_pos ⟨h0, h1⟩, hel]
  simp [sizeOf, typeInfo, hi, hs, add_none]
theorem ixTy_sl {T : TypeId} {t : Nat × Nat × Nat} (h : ixTy P T = some (.sl t)) : elTy P T = some t := by
  unfold ixTy at h
  unfold elTy
  split at h
  · rename_i e hu
    obtain ⟨i, h1, h2⟩ := Option.map_eq_some_iff.1 h
    injection h2 with h2
    rw [hu]
    simp [h1, h2]
  · obtain ⟨i, h1, h2⟩ := Option.map_eq_some_iff.1 h
    cases h2
  · cases h
theorem ixTy_ar {T : TypeId} {m sz : Nat} (h : ixTy P T = some (.ar m sz)) : ∃ e i, P.underlying T = some (.array m e) ∧ P.info? e = some i ∧ i.size = sz := by
  unfold ixTy at h
  split at h
  · obtain ⟨i, h1, h2⟩ := Option.map_eq_some_iff.1 h
    cases h2
  · rename_i n e hu
    obtain ⟨i, h1, h2⟩ := Option.map_eq_some_iff.1 h
    injection h2 with h2 h3
    subst h2
    exact ⟨e, i, hu, h1, h3⟩
  · cases h
theorem q_indexAddr {o : Oper} {T : TypeId} {x i : Operand} (ho : o.op = .indexAddr T x i) (hd : dOk n o.dst) (R : RelC W0 S F n L m s a w) (h : opE P H o.dst (.indexAddr T x i) s K) : QS P W0 S F n K o a w := by
  have hx := R.ev x
  have hi := R.ev i
  obtain ⟨ix, hix, h1⟩ := onSome.elim (show onSome _ _ from h)
  cases ix with
  | sl t =>
    obtain ⟨e, sz, by_⟩ := t
    have ht := ixTy_sl hix
    obtain ⟨k, j, hj, h2⟩ := onInt.elim h1
    rw [hj] at hi
    have key : ∀ (y : Org × List (List AV)), s.sl sz (s.ev x) = some y → 0 ≤ j ∧ j < y.2.length → (∀ b off A c, a.eval x = .slice A y.2.length c → A = some ⟨b, off, none⟩ → (cx w S F L m s.σ).st y.1 b → RepEls (cx w S F L m s.σ) (.read y.1) b off 0 sz y.2 → (cx w S F L m s.σ).alive y.1 →
        ∃ z, Rep (cx w S F L m s.σ) false (.read .ent) z (.pointer (some ⟨b, off + j.toNat * sz, none⟩)) ∧ K (s.put o.dst z)) → QS P W0 S F n K o a w := fun y hy hb hk => by
      obtain ⟨ha, A, c, he, h3, h4, h5⟩ := R.sl hy hx
      rcases h5 with h5 | ⟨b, off, hA, hst, hE⟩
      · rw [h5] at hb; simp at hb; omega
      · obtain ⟨z, hz, hkz⟩ := hk b off A c he hA hst hE ha
        refine QS.of R hd (v := .pointer (some ⟨b, off + j.toNat * sz, none⟩)) ?_ hz hkz
        subst hA
        simp only [execOp, ho, he, hi.1, Sem.run_bind]
        rw [run_indexAt ht hb.1 hb.2]; rfl
    rcases onRef.elim h2 with ⟨id, hv, h3⟩ | ⟨b, hv, h3⟩ | h3
    · obtain ⟨y, hy, hb, h4⟩ := onSome.elim h3
      refine key y (by rw [hv]; exact hy) hb (fun b off A c he hA _ _ _ => ⟨_, ?_, h4⟩)
      rw [hv] at hx
      refine ⟨rfl, hx.2.2.1, b, off, ?_, rfl⟩
      rw [← hx.2.2.2, he, hA]; rfl
    · exact h3.elim
    · obtain ⟨y, hy, hb, h4⟩ := onSome.elim h3
      exact key y hy hb (fun b off A c he hA hst hE ha => ⟨.rp y.1 e sz y.2 j.toNat 0, ⟨rfl, ha, b, off, rfl, hst, hE⟩, h4⟩)
  | ar m' sz =>
    obtain ⟨e, i', hu, hi', rfl⟩ := ixTy_ar hix
    obtain ⟨k, j, hj, hb, h2⟩ := onInt.elim h1
    rw [hj] at hi
    have hrun : ∀ b o' : Nat, a.eval x = .pointer (some ⟨b, o', none⟩) → (execOp a.eval o).run P w = .ok (.value (.pointer (some ⟨b, o' + j.toNat * i'.size, none⟩))) w := fun b o' he => by
      have h1 : P.arrayLen T = m' := by simp [Program.arrayLen, hu]
      have h2 : P.elem T = e := by simp [Program.elem, hu]
      have := run_indexAt_array (P := P) w T ⟨b, o', none⟩ k j (by rw [h1, h2]; exact hu)
      rw [if_pos (by rw [h1]; exact hb), h2] at this
      simp only [execOp, ho, he, hi.1, Sem.run_bind, this]
      simp [sizeOf, typeInfo, hi', add_none]
    rcases onAdr.elim h2 with ⟨r, e', sz', els, i2, q, hv, h3⟩ | ⟨id, sz', i2, q, hv, h3⟩
    · rw [hv] at hx
      obtain ⟨h4, h5, b, off, he, h6⟩ := hx
      exact QS.of (x := .rp r e' sz' els i2 (q + j.toNat * i'.size)) R hd (hrun b _ he) ⟨h4, h5, b, off, by rw [Nat.add_assoc (off + i2 * sz')], h6⟩ h3
    · rw [hv] at hx
      obtain ⟨h4, h5, b, off, h6, he⟩ := hx
      exact QS.of (x := .ptr id sz' i2 (q + j.toNat * i'.size)) R hd (hrun b _ he) ⟨h4, h5, b, off, h6, by rw [Nat.add_assoc (off + i2 * sz')]⟩ h3
end
end Go.Ev
