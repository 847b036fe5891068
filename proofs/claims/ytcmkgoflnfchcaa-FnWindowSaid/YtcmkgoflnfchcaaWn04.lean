/- Part 4 of what the row leans on: the evaluator, words, contracts of functions; pruned by a program of ours. -/
import Derived.Test.YtcmkgoflnfchcaaWn03
import Derived.Laws.IdiomStrings
import Derived.Laws.Slices
import Derived.Laws.BytesArg
import Derived.Laws.Strings
set_option linter.unusedVariables false
set_option linter.unusedSimpArgs false
namespace Go.Ev
open Go Go.RowKit
section
variable {P : Program} {H : Nat → Nat} {W0 : Bs} {S F : Nat → Prop} {n : Nat} {L : Nat → Option Id} {m : Id → Value} {s : St} {a : Act} {w : World} {K : St → Prop}
theorem RepEls.drop {C : Cx} {md : Md} {b sz : Nat} : ∀ (k : Nat) {els : List (List AV)} {off q : Nat}, RepEls C md b off q sz els → RepEls C md b (off + k * sz) (q + k * sz) sz (els.drop k)
  | 0, els, _, _, h => by simpa using h
  | k + 1, [], _, _, _ => trivial
  | k + 1, e :: es, off, q, h => by
    have := RepEls.drop k h.2.2
    rw [Nat.add_assoc, Nat.add_assoc, show sz + k * sz = (k + 1) * sz by rw [Nat.add_mul, Nat.one_mul, Nat.add_comm]] at this
    exact this
theorem RepEls.take {C : Cx} {md : Md} {b sz : Nat} : ∀ (k : Nat) {els : List (List AV)} {off q : Nat}, RepEls C md b off q sz els → RepEls C md b off q sz (els.take k)
  | 0, els, _, _, _ => by rw [List.take_zero]; trivial
  | k + 1, [], _, _, _ => trivial
  | k + 1, e :: es, off, q, h => ⟨h.1, h.2.1, RepEls.take k h.2.2⟩
theorem Tr.refl_read (C : Cx) (o : Org) : Tr C C (.read o) (.read o) := ⟨id, fun _ h => ⟨h, rfl⟩⟩
theorem RepEls.q0 {C : Cx} {o : Org} {b off q sz : Nat} {els : List (List AV)} (h : RepEls C (.read o) b off q sz els) (q' : Nat) : RepEls C (.read o) b off q' sz els :=
  RepEls.tr (Stays.refl C) (Tr.refl_read C o) els rfl (.inl rfl) h
theorem boundE.elim (R : RelC W0 S F n L m s a w) {x : Option Operand} {d : Int} {k : Int → Prop} (h : boundE s x d k) : ∃ i, k i ∧ ((x = none ∧ i = d) ∨ ∃ q, x.map a.eval = some (.int q i)) := by
  cases x with
  | none => exact ⟨d, h, .inl ⟨rfl, rfl⟩⟩
  | some x =>
    obtain ⟨q, i, hv, hk⟩ := onInt.elim (show onInt _ _ from h)
    have hx := R.ev x
    rw [hv] at hx
    exact ⟨i, hk, .inr ⟨q, by simp [hx.1]⟩⟩
theorem run_slice_bounds {T e : TypeId} (hu : P.underlying T = some (.slice e)) {i : TypeInfo} (hi : P.info? e = some i) (A : Option Addr) (len cap : Nat) (hcap : len ≤ cap) {lo hi' : Option Value} {l h : Int}
    (hl : (lo = none ∧ l = 0) ∨ ∃ q, lo = some (.int q l)) (hh : (hi' = none ∧ h = len) ∨ ∃ q, hi' = some (.int q h)) (h0 : 0 ≤ l) (h1 : l ≤ h) (h2 : h ≤ len) (w : World) :
    (Instr.sliceAt T (.slice A len cap) lo hi' none).run P w = .ok (sliced A l.toNat h.toNat cap i.size) w := by
  have hel : P.elem T = e := by simp [Program.elem, hu]
  have hu' : P.underlying T = some (.slice (P.elem T)) := by rw [hel]; exact hu
  have hs : (sizeOf (P.elem T)).run P w = .ok i.size w := by rw [hel]; simp [sizeOf, typeInfo, hi]
  rw [run_sliceAt_slice w T _ _ _ _ hu']
  rcases hl with ⟨rfl, rfl⟩ | ⟨q, rfl⟩ <;> rcases hh with ⟨rfl, rfl⟩ | ⟨q', rfl⟩
  · rw [run_slice_all w T A len cap hu', hs]; simp
  · rw [run_slice_h w T A len cap hu' _ _ (by omega) (by omega), hs]; simp
  · rw [run_slice_l w T A len cap hu' _ _ h0 (by omega), hs]; simp
  · rw [run_slice_lh w T A len cap hu' _ _ _ _ h0 h1 (by omega), hs]; simp
theorem shows_sliced {C : Cx} {o : Org} {sz : Nat} {els : List (List AV)} {A : Option Addr} {cap : Nat} (h : Shows C o sz els (.slice A els.length cap)) {l r : Nat} (h1 : l ≤ r) (h2 : r ≤ els.length) :
    Shows C o sz ((els.take r).drop l) (sliced A l r cap sz) := by
  obtain ⟨ha, A', c, he, h3, h4, h5⟩ := h
  injection he with e1 _ e3
  subst e1; subst e3
  have hlen : ((els.take r).drop l).length = r - l := by rw [List.length_drop, List.length_take]; omega
  refine ⟨ha, if cap = l then A else A.map (·.add (l * sz)), cap - l, by rw [hlen]; rfl, by rw [hlen]; omega, by rw [hlen]; omega, ?_⟩
  rcases h5 with h5 | ⟨b, off, rfl, hb, hE⟩
  · left; rw [h5]; simp
  · by_cases hlt : l < r
    · right
      refine ⟨b, off + l * sz, ?_, hb, RepEls.q0 ((hE.take r).drop l) 0⟩
      rw [if_neg (by omega)]
      simp [add_none]
    · left
      exact List.eq_nil_of_length_eq_zero (by rw [hlen]; omega)
theorem Shows.rd {C : Cx} {o : Org} {e sz : Nat} {els : List (List AV)} {x : Value} (h : Shows C o sz els x) : Rep C false (.read .ent) (.rd o.base e sz els) x := by
  obtain ⟨ha, A, c, rfl, h1, h2, h3⟩ := h
  refine ⟨by simp, ⟨Org.base_alive ha, Org.base_hdr⟩, A, c, rfl, h1, h2, ?_⟩
  rcases h3 with h3 | ⟨b, off, rfl, hb, hr⟩
  · exact .inl h3
  · exact .inr ⟨b, off, rfl, Org.base_st hb, RepEls.tr (Stays.refl C) (Org.tr_base o) els rfl (.inl rfl) hr⟩
theorem q_slice {mf : Bool} {o : Oper} {T : TypeId} {x : Operand} {lo hi : Option Operand} (ho : o.op = .slice T x lo hi none) (hd : dOk n o.dst) (R : RelC W0 S F n L m s a w) (h : opE P H o.dst (.slice T x lo hi none) s K) : QS mf P W0 S F n K o a w := by
  have hx := R.ev x
  have h : sliceOp P H o.dst T x lo hi s K := h
  have key : ∀ (e sz by_ : Nat) (y : Org × List (List AV)) (av : AV), elTy P T = some (e, sz, by_) → s.sl sz av = some y → Rep (cx w S F L m s.σ) false (.read .ent) av (a.eval x) → ∀ l r : Int,
      ((lo = none ∧ l = 0) ∨ ∃ q, lo.map a.eval = some (.int q l)) → ((hi = none ∧ r = y.2.length) ∨ ∃ q, hi.map a.eval = some (.int q r)) → 0 ≤ l ∧ l ≤ r ∧ r ≤ y.2.length →
      ∃ A c, a.eval x = .slice A y.2.length c ∧ y.2.length ≤ c ∧ Shows (cx w S F L m s.σ) y.1 sz y.2 (.slice A y.2.length c) ∧ (∀ w', Gr mf w w' → (execOp a.eval o).run P w' = .ok (.value (sliced A l.toNat r.toNat c sz)) w') := fun e sz by_ y av ht hy hr l r hl hh hb => by
    have hS := R.sl hy hr
    obtain ⟨t, hu, hi', hs, _⟩ := elTy_run ht
    have hS' := hS
    obtain ⟨ha, A, c, he, h3, h4, h5⟩ := hS'
    refine ⟨A, c, he, h3, he ▸ hS, fun w' _ => ?_⟩
    have hrun := run_slice_bounds (P := P) hu hi' A y.2.length c h3 (lo := lo.map a.eval) (hi' := hi.map a.eval) (l := l) (h := r) (hl.imp (fun h => ⟨by rw [h.1]; rfl, h.2⟩) id) (hh.imp (fun h => ⟨by rw [h.1]; rfl, h.2⟩) id) hb.1 hb.2.1 hb.2.2 w'
    rw [hs] at hrun
    simp only [execOp, ho, he, Sem.run_bind, Option.map_none, hrun]
    rfl
  unfold sliceOp at h
  rcases onRef.elim h with ⟨id, hv, h1⟩ | ⟨b, hv, h1⟩ | h1
  · obtain ⟨⟨e, sz, by_⟩, ht, h2⟩ := onSome.elim h1
    rcases onOB.elim h2 with ⟨u, sz', els, hs, h3⟩ | ⟨_, _, _, h3⟩
    · obtain ⟨l, h4, hl⟩ := boundE.elim R h3
      obtain ⟨r, h5, hh⟩ := boundE.elim R h4
      obtain ⟨⟨hsz, hb⟩, h6⟩ := h5
      obtain ⟨d, hdst, h7⟩ := onSome.elim h6
      have hsz : sz' = sz := hsz
      subst hsz
      rw [hv] at hx
      obtain ⟨A, c, he, hc, hS, hrun⟩ := key e sz' by_ (.obj id, els) (.ref id) ht (by simp [St.sl, hs, rowOf, sel]) hx l r hl hh hb
      have hb' : l.toNat ≤ r.toNat ∧ r.toNat ≤ els.length := ⟨by omega, by omega⟩
      cases hH : (H d == 1) with
      | false =>
        rw [hH] at h7
        exact QS.of R hd hrun (x := .rd (.obj id) u sz' ((els.take r.toNat).drop l.toNat)) (Shows.rd (o := .obj id) (shows_sliced hS hb'.1 hb'.2)) h7
      | true =>
        rw [hH] at h7
        have hm : m id = .slice A els.length c := by rw [← show a.eval x = m id from hx.2.2.2, he]
        have hlen : ((els.take r.toNat).drop l.toNat).length = r.toNat - l.toNat := by rw [List.length_drop, List.length_take]; omega
        let m' : Id → Value := fun y => if y = id then sliced A l.toNat r.toNat c sz' else m y
        have k : Keep (cx w S F L m s.σ) (cx w S F L m' (updS (killS s.σ [id] [id]) id (.row u sz' ((els.take r.toNat).drop l.toNat)))) [id] [id] := by
          refine ⟨⟨fun _ h => ⟨h, rfl⟩, fun _ h => ⟨h, rfl⟩⟩, fun _ h => h, fun y hy hl => ⟨?_, ?_⟩, fun y hy hl b q hb => ⟨hb, rfl⟩⟩
          · have hne : y ≠ id := fun e => by subst e; rw [hit_self (by simp)] at hy; cases hy
            show (updS _ _ _ y).isSome = true
            have e1 : (y == id) = false := by simpa using hne
            unfold updS
            rw [e1]
            exact killS_isSome.2 ⟨hy, hl⟩
          · have hne : y ≠ id := fun e => by subst e; rw [hit_self (by simp)] at hy; cases hy
            exact if_neg hne
        have hob : RepOb (cx w S F L m' (updS (killS s.σ [id] [id]) id (.row u sz' ((els.take r.toNat).drop l.toNat)))) id (.row u sz' ((els.take r.toNat).drop l.toNat)) := by
          show Rep _ true (.own id) (.row u sz' ((els.take r.toNat).drop l.toNat)) (m' id)
          rw [show m' id = sliced A l.toNat r.toNat c sz' from if_pos rfl]
          obtain ⟨A2, c2, he2, hR⟩ := R.obj id _ hs
          rw [show (cx w S F L m s.σ).m id = m id from rfl, hm] at he2
          injection he2 with e1 _ e3
          subst e1; subst e3
          refine ⟨_, _, by rw [hlen]; rfl, ?_⟩
          rcases hR with ⟨rfl, rfl, rfl⟩ | ⟨g, off, arr, fr, q, rfl, hL, hh', h8, h9, h10, h11, hE⟩
          · left
            simp
          · right
            have hE' := RepEls.tr (C' := cx w S F L m' (updS (killS s.σ [id] [id]) id (.row u sz' ((els.take r.toNat).drop l.toNat)))) k.st (show Tr _ _ (.own id) (.own id) from fun b q hb => ⟨hb, rfl⟩) _ rfl (.inr rfl) ((hE.take r.toNat).drop l.toNat)
            by_cases hcl : c = l.toNat
            · refine ⟨g, off, arr, fr, q, by rw [if_pos hcl], hL, hh', by rw [hlen]; omega, ?_, fun i hi => h10 i ?_, by rw [hlen]; omega, ?_⟩
              · have : (c - l.toNat) * sz' ≤ c * sz' := Nat.mul_le_mul_right _ (by omega)
                omega
              · have : (c - l.toNat) * sz' ≤ c * sz' := Nat.mul_le_mul_right _ (by omega)
                omega
              · rw [List.eq_nil_of_length_eq_zero (show ((els.take r.toNat).drop l.toNat).length = 0 by rw [hlen]; omega)]
                trivial
            · have hmul : l.toNat * sz' + (c - l.toNat) * sz' = c * sz' := by rw [← Nat.add_mul]; congr 1; omega
              refine ⟨g, off + l.toNat * sz', arr, fr, _, by rw [if_neg hcl]; simp [add_none], hL, hh', by rw [hlen]; omega, by omega, fun i hi => ?_, by rw [hlen]; omega, hE'⟩
              have := h10 (l.toNat * sz' + i) (by omega)
              rwa [← Nat.add_assoc] at this
        have R' := R.upd1 (by simp) k hob R.lab R.below
        have e1 : updS (killS s.σ [id] [id]) id (.row u sz' ((els.take r.toNat).drop l.toNat)) id = some (.row u sz' ((els.take r.toNat).drop l.toNat)) := by simp [updS, sel]
        exact ⟨_, _, hrun, ⟨L, m', R'.put hd (x := .ref id) ⟨rfl, trivial, RelC.live e1, (if_pos rfl).symm⟩⟩, h7⟩
    · exact h3.elim
  · obtain ⟨_, ht, h1⟩ := onSome.elim h1
    have hu : P.underlying T = some .string := by
      unfold strTy at ht
      split at ht
      · assumption
      · cases ht
    obtain ⟨l, h4, hl⟩ := boundE.elim R h1
    obtain ⟨r, h5, hh⟩ := boundE.elim R h4
    obtain ⟨hb, h6⟩ := h5
    rw [hv] at hx
    refine QS.of R hd (v := .string (b.extract l.toNat r.toNat)) (fun w' _ => ?_) (rep_v trivial) h6
    have h0 : (0 : Int) ≤ r := by omega
    have hb2 := hb.2.2
    rcases hl with ⟨rfl, rfl⟩ | ⟨q, hl⟩ <;> rcases hh with ⟨rfl, rfl⟩ | ⟨q', hh⟩
    · simp [execOp, ho, hx.1, run_sliceAt_string _ _ _ _ _ _ hu, Instr.slice, run_underlying hu, Instr.sliceBounds]
    · simp [execOp, ho, hx.1, hh, run_sliceAt_string _ _ _ _ _ _ hu, Instr.slice, run_underlying hu, Instr.sliceBounds, run_sliceBound, h0, hb2]
    · simp [execOp, ho, hx.1, hl, run_sliceAt_string _ _ _ _ _ _ hu, Instr.slice, run_underlying hu, Instr.sliceBounds, run_sliceBound, hb.1, hb.2.1]
    · have e1 : ((r.toNat : Nat) : Int) = r := by omega
      simp [execOp, ho, hx.1, hl, hh, run_sliceAt_string _ _ _ _ _ _ hu, Instr.slice, run_underlying hu, Instr.sliceBounds, run_sliceBound, hb.1, hb.2.1, h0, hb2, e1]
  · obtain ⟨⟨e, sz, by_⟩, ht, h2⟩ := onSome.elim h1
    obtain ⟨y, hy, h3⟩ := onSome.elim h2
    obtain ⟨l, h4, hl⟩ := boundE.elim R h3
    obtain ⟨r, h5, hh⟩ := boundE.elim R h4
    obtain ⟨hb, h6⟩ := h5
    obtain ⟨A, c, he, hc, hS, hrun⟩ := key e sz by_ y _ ht hy hx l r hl hh hb
    refine QS.of R hd hrun (x := slR (s.ev x) (.rd y.1.base e sz ((y.2.take r.toNat).drop l.toNat))) ?_ h6
    have gen := Shows.rd (e := e) (shows_sliced hS (l := l.toNat) (r := r.toNat) (by omega) (by omega))
    generalize hav : s.ev x = av at hy hx gen
    cases av with
    | v u =>
      have hy : nilV u = some y := hy
      unfold nilV at hy
      split at hy
      · obtain rfl := Option.some.inj hy
        rw [hx.1] at he
        injection he with e1 e2 e3
        subst e1; subst e3
        have e4 : r.toNat = 0 := by have := hb.2.2; simp at this; omega
        have e5 : l.toNat = 0 := by have := hb.2.2; simp at this; omega
        exact ⟨by rw [e4, e5]; rfl, trivial⟩
      · cases hy
    | _ => exact gen
theorem strTy_run {T : TypeId} {x : Unit} (h : strTy P T = some x) : P.underlying T = some .string := by
  unfold strTy at h
  split at h
  · assumption
  · cases h
theorem cvTy_int {src dst : TypeId} {k : IntKind} (h : cvTy P src dst = some (.int k)) : (P.underlying src).isSome = true ∧ P.underlying dst = some (.int k) := by
  unfold cvTy at h
  split at h
  · rename_i e1 e2
    injection h with h; injection h with h; subst h
    exact ⟨by rw [e1]; rfl, e2⟩
  · split at h <;> simp at h
  · simp at h
  · split at h
    · split at h <;> simp at h
    · simp at h
  · split at h
    · split at h <;> simp at h
    · simp at h
  · simp at h
theorem cvTy_bytes {src dst : TypeId} (h : cvTy P src dst = some .bytes) : ∃ e, P.underlying src = some (.slice e) ∧ P.underlying e = some (.int .u8) ∧ P.underlying dst = some .string := by
  unfold cvTy at h
  split at h
  · simp at h
  · rename_i e e1 e2
    split at h
    · rename_i e3; exact ⟨e, e1, e3, e2⟩
    · simp at h
  · simp at h
  · split at h
    · split at h <;> simp at h
    · simp at h
  · split at h
    · split at h <;> simp at h
    · simp at h
  · simp at h
theorem cvTy_str {src dst : TypeId} (h : cvTy P src dst = some .str) : P.underlying src = some .string ∧ P.underlying dst = some .string := by
  unfold cvTy at h
  split at h
  · simp at h
  · split at h <;> simp at h
  · rename_i e1 e2; exact ⟨e1, e2⟩
  · split at h
    · split at h <;> simp at h
    · simp at h
  · split at h
    · split at h <;> simp at h
    · simp at h
  · simp at h
theorem cvTy_same {src dst : TypeId} (h : cvTy P src dst = some .same) : src = dst ∧ ∃ e, P.underlying src = some (.slice e) ∧ P.underlying e = some (.int .u8) := by
  unfold cvTy at h
  split at h
  · simp at h
  · split at h <;> simp at h
  · simp at h
  · rename_i e e' e1 e2
    split at h
    · rename_i e3
      split at h
      · rename_i e4; exact ⟨by simpa using e4, e, e1, e3⟩
      · simp at h
    · simp at h
  · split at h
    · split at h <;> simp at h
    · simp at h
  · simp at h
theorem cvTy_ofs {src dst : TypeId} {e : Nat} (h : cvTy P src dst = some (.ofs e)) : P.underlying src = some .string ∧ P.underlying dst = some (.slice e) ∧ P.underlying e = some (.int .u8) ∧ src = 9 := by
  unfold cvTy at h
  split at h
  · simp at h
  · split at h <;> simp at h
  · simp at h
  · split at h
    · split at h <;> simp at h
    · simp at h
  · rename_i e' e1 e2
    split at h
    · rename_i e3
      split at h
      · rename_i e4
        injection h with h; injection h with h; subst h
        exact ⟨e1, e2, e3, by simpa using e4⟩
      · simp at h
    · simp at h
  · simp at h
theorem repEls_bytes {C : Cx} {md : Md} {b : Nat} : ∀ {bs : List UInt8} {off q j : Nat}, RepEls C md b off q 1 (bytesA bs) → (hj : j < bs.length) → C.w.cell? ⟨b, off + j, none⟩ = some (.int .u8 (bs[j].toNat : Int)) := by
  intro bs off q j h hj
  obtain ⟨_, hC⟩ := h.at_ (i := j) (cs := byteC bs[j]) (by simp [bytesA, hj])
  obtain ⟨y, h1, _, h3⟩ := hC.at_ (k := 0) rfl
  rw [Nat.mul_one, Nat.add_zero] at h1
  rw [h1, h3.1]
theorem q_convert {o : Oper} {src dt : TypeId} {x : Operand} (ho : o.op = .convert src dt x) (hd : dOk n o.dst) (R : RelC W0 S F n L m s a w) (h : opE P H o.dst (.convert src dt x) s K) (hne : cvTy P src dt ≠ some .same) (hno : ∀ e, cvTy P src dt ≠ some (.ofs e)) : QS false P W0 S F n K o a w := by
  have hx := R.ev x
  obtain ⟨c, hc, h1⟩ := onSome.elim (show onSome _ _ from h)
  cases c with
  | int k =>
    obtain ⟨q, i, hv, h2⟩ := onInt.elim h1
    rw [hv] at hx
    obtain ⟨h3, h4⟩ := cvTy_int hc
    have hk : P.intKind dt = k := by simp [Program.intKind, h4]
    refine QS.of R hd (v := .int k (k.wrap i)) (fun w' _ => ?_) (rep_v trivial) h2
    have := run_convert_int (P := P) w' src dt q i h3 (by rw [hk]; exact h4)
    rw [hk] at this
    simp [execOp, ho, hx.1, this]
  | bytes =>
    obtain ⟨y, hy, bs, hbs, h2⟩ := onSome.elim h1
    obtain ⟨e, g1, g2, g3⟩ := cvTy_bytes hc
    obtain ⟨_, A, c, he, _, _, hE⟩ := R.sl hy hx
    refine QS.of R hd (v := .string ⟨bs.toArray⟩) (fun w' hw' => ?_) (rep_v trivial) h2
    rw [hbs] at hE he
    rcases hE with h0 | ⟨b, off, rfl, _, hE⟩
    · have hb0 : bs = [] := by cases bs with | nil => rfl | cons _ _ => simp [bytesA] at h0
      subst hb0
      cases A with
      | none =>
        have := run_convert_bytes_nil (P := P) (w := w') src e g1 g2 (bytesA []).length c dt g3
        simp only [execOp, ho, he, Sem.run_bind, this]; rfl
      | some a' =>
        have := run_convert_bytes_back (P := P) w' src dt e a' c [] g1 g2 g3 (fun j hj => by simp at hj)
        simp only [execOp, ho, he, Sem.run_bind, show (bytesA []).length = ([] : List UInt8).length from rfl, this]; rfl
    · have := run_convert_bytes_back (P := P) w' src dt e ⟨b, off, none⟩ c bs g1 g2 g3 (fun j hj => by rw [add_none]; exact (hw'.resolve_left (by simp)).cell (repEls_bytes hE hj))
      simp only [execOp, ho, he, Sem.run_bind, show (bytesA bs).length = bs.length by simp [bytesA], this]; rfl
  | str =>
    obtain ⟨g1, g2⟩ := cvTy_str hc
    rcases onRef.elim h1 with ⟨id, hv, h2⟩ | ⟨b, hv, h2⟩ | h2
    · exact h2.elim
    · rw [hv] at hx
      refine QS.of R hd (v := .string b) (fun w' _ => ?_) (rep_v trivial) h2
      simp [execOp, ho, hx.1, convert, run_underlying g1, run_underlying g2]
    · exact h2.elim
  | same => exact absurd hc hne
  | ofs e => exact absurd hc (hno e)
theorem mapTy_run {T : TypeId} {d : TypeDesc} {e : Nat} (h : mapTy P T = some (d, e)) : ∃ k, P.underlying T = some (.map k e) ∧ P.underlying k = some d := by
  unfold mapTy at h
  split at h
  · rename_i k e' hu
    obtain ⟨d', hd, h⟩ := Option.map_eq_some_iff.1 h
    simp only [Prod.mk.injEq] at h
    obtain ⟨rfl, rfl⟩ := h
    exact ⟨k, hu, hd⟩
  · cases h
theorem q_len {o : Oper} {x : Operand} {T : TypeId} (ho : o.op = .call ⟨.builtin .len, ⟨[x]⟩, ⟨[T]⟩⟩) (hd : dOk n o.dst) (R : RelC W0 S F n L m s a w) (h : opE P H o.dst (.call ⟨.builtin .len, ⟨[x]⟩, ⟨[T]⟩⟩) s K) : QS false P W0 S F n K o a w := by
  have hx := R.ev x
  have sl : ∀ (A : Option Addr) (l c : Nat) (e sz by_ : Nat), elTy P T = some (e, sz, by_) → a.eval x = .slice A l c → ∀ w', Gr false w w' → (execOp a.eval o).run P w' = .ok (.value (.int .i64 l)) w' := fun A l c e sz by_ ht he w' _ => by
    obtain ⟨i, hu, _⟩ := elTy_run ht
    have hel : P.elem T = e := by simp [Program.elem, hu]
    simp [execOp, ho, resolve, invoke, builtin, he, run_len_slice w' T _ A l c (by rw [hel]; exact hu), goInt]
  rcases onRef.elim (show onRef _ _ _ _ from h) with ⟨id, hv, h1⟩ | ⟨b, hv, h1⟩ | h1
  · rcases onRL.elim h1 with ⟨e', sz', els, hs, h2⟩ | ⟨d', e', l, hs, h2⟩
    · obtain ⟨⟨e, sz, by_⟩, ht, h2⟩ := onSome.elim h2
      rw [hv] at hx
      obtain ⟨_, A, c, he, _⟩ := R.row hs
      exact QS.of R hd (sl A els.length c e sz by_ ht (hx.2.2.2.trans he)) (rep_v trivial) h2
    · obtain ⟨⟨d, e⟩, ht, h2⟩ := onSome.elim h2
      obtain ⟨k, hT, _⟩ := mapTy_run ht
      rw [hv] at hx
      obtain ⟨g, es, clock, g1, g2, g3, g4, _⟩ := R.obj id _ hs
      have g1' : m id = .map (some g) := g1
      have he : a.eval x = .map (some g) := hx.2.2.2.trans g1'
      have hgl := (R.lab g id g2).2
      refine QS.of R hd (v := .int .i64 l.length) (fun w' hw' => ?_) (rep_v trivial) h2
      have hb : w'.heap[g]? = some (.map es clock) := by
        have := (hw'.resolve_left (by simp)).2 g hgl
        rw [this]; exact g3
      have hl : es.size = l.length := by rw [← g4]; simp
      have h1 : P.mapKeyOf T = k := by simp [Program.mapKeyOf, hT]
      have h2 : P.mapElemOf T = e := by simp [Program.mapElemOf, hT]
      simp [execOp, ho, resolve, invoke, builtin, he, run_len_map w' T _ g es clock (by rw [h1, h2]; exact hT) hb, goInt, hl]
  · obtain ⟨_, ht, h1⟩ := onSome.elim h1
    rw [hv] at hx
    refine QS.of R hd (v := .int .i64 b.size) (fun w' _ => ?_) (rep_v trivial) h1
    simp [execOp, ho, resolve, invoke, builtin, hx.1, run_len_string w' T _ b (strTy_run ht), goInt]
  · obtain ⟨⟨e, sz, by_⟩, ht, h2⟩ := onSome.elim h1
    obtain ⟨y, hy, h3⟩ := onSome.elim h2
    obtain ⟨_, A, c, he, _⟩ := R.sl hy hx
    exact QS.of R hd (sl A _ c e sz by_ ht he) (rep_v trivial) h3
theorem q_cap {mf : Bool} {o : Oper} {x : Operand} {T : TypeId} (ho : o.op = .call ⟨.builtin .cap, ⟨[x]⟩, ⟨[T]⟩⟩) (hd : dOk n o.dst) (R : RelC W0 S F n L m s a w) (h : opE P H o.dst (.call ⟨.builtin .cap, ⟨[x]⟩, ⟨[T]⟩⟩) s K) : QS mf P W0 S F n K o a w := by
  have hx := R.ev x
  obtain ⟨⟨e, sz, by_⟩, ht, h1⟩ := onSome.elim (show onSome _ _ from h)
  obtain ⟨hv, h2⟩ := onNil.elim h1
  rw [hv] at hx
  obtain ⟨i, hu, _⟩ := elTy_run ht
  have hel : P.elem T = e := by simp [Program.elem, hu]
  refine QS.of R hd (v := .int .i64 0) (fun w' _ => ?_) (rep_v trivial) h2
  simp [execOp, ho, resolve, invoke, builtin, hx.1, run_cap_slice w' T _ none 0 0 (by rw [hel]; exact hu), goInt]
theorem zeroV_run {e : TypeId} {z : Value} (h : zeroV P e = some z) (w : World) : (zeroValue e).run P w = .ok z w ∧ one z := by
  unfold zeroV at h
  split at h
  · rename_i i hi
    split at h
    · rename_i v hv
      split at h
      · rename_i hc
        obtain rfl := Option.some.inj h
        exact ⟨by simp [zeroValue, typeInfo, hi, hv], oneB_iff.1 hc⟩
      · cases h
    · cases h
  · cases h
theorem mget_one : ∀ {es : List MapEntry} {k v : Value}, (∀ x ∈ es, one x.val) → mget (pairsOf es) k = some v → one v
  | [], k, v, _, h => by cases h
  | e :: es, k, v, h, hg => by
    have hg : sel (kEq e.key k) (some e.val) (mget (pairsOf es) k) = some v := hg
    cases hk : kEq e.key k with
    | true => rw [hk] at hg; obtain rfl := Option.some.inj hg; exact h e (.head _)
    | false => rw [hk] at hg; exact mget_one (fun x hx => h x (.tail _ hx)) hg
theorem q_lookup {o : Oper} {T : TypeId} {x i : Operand} {c : Bool} (ho : o.op = .lookup T x i c) (hd : dOk n o.dst) (R : RelC W0 S F n L m s a w) (h : opE P H o.dst (.lookup T x i c) s K) : QS false P W0 S F n K o a w := by
  have hx := R.ev x
  have hi := R.ev i
  obtain ⟨⟨d, e⟩, ht, h1⟩ := onSome.elim (show onSome _ _ from h)
  obtain ⟨z, hz, h2⟩ := onSome.elim h1
  rcases onRef.elim h2 with ⟨id, hv, h3⟩ | ⟨b, hv, h3⟩ | h3
  · obtain ⟨d', e', l, hs, h4⟩ := onMp.elim h3
    obtain ⟨u, hu, h5⟩ := onV.elim h4
    obtain ⟨⟨rfl, hk⟩, h6⟩ := h5
    obtain ⟨k, hT, hkd⟩ := mapTy_run ht
    obtain ⟨g, es, clock, g1, g2, g3, g4, g5⟩ := R.obj id _ hs
    rw [hv] at hx
    rw [hu] at hi
    have g1' : m id = .map (some g) := g1
    have he : a.eval x = .map (some g) := hx.2.2.2.trans g1'
    have hl : pairsOf es.toList = l := g4
    have hzo := (zeroV_run hz w).2
    have hone : one ((mget l u).getD z) := by
      cases hg : mget l u with
      | none => exact hzo
      | some v => exact mget_one (fun x hx => (g5 x hx).2) (by rw [hl]; exact hg)
    have hlab := R.lab g id g2
    have hrun : ∀ w', Gr false w w' → (execOp a.eval o).run P w' = .ok (.value (if c then .tuple #[(mget l u).getD z, .bool (mget l u).isSome] else (mget l u).getD z)) w' := fun w' hw' => by
      have hb : w'.heap[g]? = some (.map es clock) := by
        have := (hw'.resolve_left (by simp)).2 g hlab.2
        rw [this]; exact g3
      have := run_lookup_own hT hkd hb (fun x hx => (g5 x hx).1) hk (zeroV_run hz w').1 c
      rw [hl] at this
      simp [execOp, ho, he, hi.1, this]
    cases c with
    | true => exact QS.of R hd hrun (x := mapAns true z l u) ⟨_, rfl, _, _, rfl, rep_v hone, _, _, rfl, rep_v trivial, rfl⟩ h6
    | false => exact QS.of R hd hrun (x := mapAns false z l u) (rep_v hone) h6
  · exact h3.elim
  · exact h3.elim
theorem q_min {mf : Bool} {o : Oper} {x y : Operand} {ts : Array TypeId} (ho : o.op = .call ⟨.builtin .min, ⟨[x, y]⟩, ts⟩) (hd : dOk n o.dst) (R : RelC W0 S F n L m s a w) (h : opE P H o.dst (.call ⟨.builtin .min, ⟨[x, y]⟩, ts⟩) s K) : QS mf P W0 S F n K o a w := by
  have hx := R.ev x
  have hy := R.ev y
  have h : binE .lss (s.ev y) (s.ev x) (fun u => match u with | .bool t => sel t (K (s.put o.dst (s.ev y))) (K (s.put o.dst (s.ev x))) | _ => False) := h
  unfold binE at h
  split at h
  · rename_i k i k' j e1 e2
    have e1' := e1
    have e2' := e2
    rw [e1] at hy
    rw [e2] at hx
    obtain ⟨rfl, h⟩ := h
    have hrun : ∀ w', Gr mf w w' → (execOp a.eval o).run P w' = .ok (.value (.int k (if i < j then i else j))) w' := fun w' _ => by
      simp [execOp, ho, resolve, invoke, builtin, hx.1, hy.1, run_min_int2]
    by_cases hlt : i < j
    · simp only [if_pos hlt] at hrun
      simp only [hlt, decide_true, sel] at h
      exact QS.of R hd hrun (x := s.ev y) (by rw [e1]; exact rep_v trivial) h
    · simp only [if_neg hlt] at hrun
      simp only [hlt, decide_false, sel] at h
      exact QS.of R hd hrun (x := s.ev x) (by rw [e2]; exact rep_v trivial) h
  · exact h.elim
  · exact h.elim
end
end Go.Ev
