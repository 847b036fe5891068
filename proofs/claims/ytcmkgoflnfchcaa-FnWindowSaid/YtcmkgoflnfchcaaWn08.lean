/- Part 8 of what the row leans on: the evaluator, words, contracts of functions; pruned by a program of ours. -/
import Derived.Test.YtcmkgoflnfchcaaWn07
set_option linter.unusedVariables false
set_option linter.unusedSimpArgs false
namespace Go.Ev
open Go Go.RowKit
section
variable {P : Program} {H : Nat → Nat} {W0 : Bs} {S F : Nat → Prop} {n : Nat} {L : Nat → Option Id} {m : Id → Value} {s : St} {a : Act} {w : World} {K : St → Prop}
def rhoM (Q : Id → Nat) (as rs : List AV) : Id → Option Id
  | 1 :: q :: r => match as[q]?, rs[q]? with | some c, some rr => rhoA Q c rr r | _, _ => none
  | _ => none
def chM (w' : World) (m : Id → Value) (ids : List Id) (y : Id) : Value :=
  match ids.find? (fun id => (1000002 :: id).isPrefixOf y) with
  | some id => (match hdrAddr (m id), y.drop (id.length + 1) with | some ad, [k] => (w'.cell? ⟨ad.block, k, none⟩).getD undef | _, _ => undef)
  | none => m y
theorem prefix_cmp {p q : Id} (h : p.isPrefixOf q = true) : cmp p q = true := by simp [cmp, h]
theorem chM_out {w' : World} {m : Id → Value} {ids : List Id} {y : Id} (h : ∀ id ∈ ids, cmp (1000002 :: id) y = false) : chM w' m ids y = m y := by
  unfold chM
  rw [List.find?_eq_none.2 (fun id hid => by
    intro hp
    have := prefix_cmp (by simpa using hp)
    rw [h id hid] at this; cases this)]
theorem chM_in {w' : World} {m : Id → Value} {ids : List Id} {id : Id} (hid : id ∈ ids) (huniq : ∀ id' ∈ ids, cmp id' id = true → id' = id) {g off : Nat} (hm : m id = .pointer (some ⟨g, off, none⟩)) (j : Nat) : chM w' m ids (1000002 :: id ++ [j]) = (w'.cell? ⟨g, j, none⟩).getD undef := by
  unfold chM
  have hf : ids.find? (fun id' => (1000002 :: id').isPrefixOf (1000002 :: id ++ [j])) = some id := by
    cases hf : ids.find? (fun id' => (1000002 :: id').isPrefixOf (1000002 :: id ++ [j])) with
    | none =>
      have := List.find?_eq_none.1 hf id hid
      exact absurd (List.isPrefixOf_iff_prefix.2 (List.prefix_append _ _)) this
    | some id' =>
      have h1 := List.find?_some hf
      have h2 := List.mem_of_find?_eq_some hf
      obtain ⟨z, hz⟩ := List.isPrefixOf_iff_prefix.1 (by simpa using h1 : (1000002 :: id').isPrefixOf (1000002 :: id ++ [j]) = true)
      simp only [List.cons_append, List.cons.injEq, true_and] at hz
      rw [huniq id' h2 (cmp_of_append hz)]
  rw [hf]
  simp only [hm]
  simp [hdrAddr]
def St.mid (s : St) (ps : List PA) (as rs : List AV) : St :=
  ⟨killE s.env (s.dead ps as rs ++ chN ps as) (s.roots ps as ++ chN ps as), updL (killS s.σ (s.dead ps as rs ++ chN ps as) (s.roots ps as ++ chN ps as)) (s.backs ps as rs)⟩
theorem callM_sound {o : Oper} {f : FuncId} {as : Array Operand} {ts : Array TypeId} (ho : o.op = .call ⟨.value (.func f), as, ts⟩) (hd : dOk n o.dst) (R : RelC W0 S F n L m s a w)
    (h : ∃ lend cargs post, MeetsM P f cargs post ∧ (lend = true ∨ ∀ r rs, post r rs → r.pure ∧ pureCs rs) ∧ pargE P s lend (s.roots cargs (as.toList.map s.ev)) cargs (parTys P f) (as.toList.map s.ev) = some cargs ∧ (indep (s.roots cargs (as.toList.map s.ev)) && apartB (rroots cargs (as.toList.map s.ev)) (chN cargs (as.toList.map s.ev))) = true ∧ ∀ r rs, post r rs → K (s.retM cargs (as.toList.map s.ev) o.dst r rs))
    (Q : Exit → Act → World → Prop) : o.wp P a w (fun a' w' => Lift W0 S F n K a' w') Q := by
  obtain ⟨lend, cargs, post, hM, hpure, hargs, hind0, hK⟩ := h
  have hind : indep (s.roots cargs (as.toList.map s.ev)) = true ∧ apartB (rroots cargs (as.toList.map s.ev)) (chN cargs (as.toList.map s.ev)) = true := by simpa using hind0
  generalize hav : as.toList.map s.ev = av at hargs hind hK
  obtain ⟨Q0, hQ⟩ := R.origin
  obtain ⟨hlen, hgiv⟩ := parg_giv hargs
  let mv := mvG s Q0 0 cargs av
  let J0 := s.roots cargs av
  have hex : Exts (mv.map (·.1)) J0 := mvG_exts Q0 cargs av 0
  have hmi : indep (mv.map (·.1)) = true := hex.indep hind.1
  let L0 : Nat → Option Id := fun b => (L b).bind (mvO mv)
  have hL0out : ∀ b y q, L b = some (y ++ q) → hit J0 y = false → L0 b = none := fun b y q hb hy => by
    show (L b).bind (mvO mv) = none
    rw [hb]
    exact mvO_out (fun x hx => hit_mem (List.mem_map.2 ⟨x, hx, rfl⟩) (hex.out hy)) q
  let S' : Nat → Prop := fun b => if lend = true then S b else S b ∨ F b ∨ ∃ p, L b = some p ∧ mvO mv p = none
  let C0 : Cx := ⟨w, S', F, L0, fun _ => undef, fun _ => False⟩
  have hst0 : Stays (cx w S F L m s.σ) C0 := ⟨fun b h => ⟨by show (if lend = true then S b else _); split; exact h; exact .inl h, rfl⟩, fun b h => ⟨h, rfl⟩⟩
  have htr0 : ∀ x ∈ mv, Tr (cx w S F L m s.σ) C0 (.own x.1) (.own x.2) := fun x hx b r hb => ⟨by
    show (L b).bind (mvO mv) = _
    rw [show L b = some (x.1 ++ r) from hb]
    exact mvO_in hmi hx r, rfl⟩
  have hro : lend = false → ∀ o, killO J0 o = false → Tr (cx w S F L m s.σ) C0 (.read o) (.read .ent) := fun hl o ho => ⟨fun _ => trivial, fun b h => ⟨by
    show (if lend = true then S b else _)
    rw [hl, if_neg (by simp)]
    cases o with
    | ent => exact .inl h
    | frz => exact .inr (.inl h)
    | obj id => obtain ⟨q, h⟩ := h; exact .inr (.inr ⟨_, h, by have := hL0out b id q h ho; have h2 : (L b).bind (mvO mv) = none := this; rw [show L b = some (id ++ q) from h] at h2; exact h2⟩)
    | «at» id _ _ _ => obtain ⟨q, h⟩ := h; exact .inr (.inr ⟨_, h, by have := hL0out b id q h ho; have h2 : (L b).bind (mvO mv) = none := this; rw [show L b = some (id ++ q) from h] at h2; exact h2⟩), rfl⟩⟩
  have hown : lend = false → ∀ id, hit J0 id = false → Tr (cx w S F L m s.σ) C0 (.own id) (.read .ent) := fun hl id hi => ⟨trivial, fun b q h => ⟨by
    show (if lend = true then S b else _)
    rw [hl, if_neg (by simp)]
    exact .inr (.inr ⟨_, h, by have := hL0out b id q h hi; have h2 : (L b).bind (mvO mv) = none := this; rw [show L b = some (id ++ q) from h] at h2; exact h2⟩), rfl⟩⟩
  have hreps : RepPs C0 0 cargs (as.toList.map a.eval) := parg_sound R hQ rfl hst0 hro hown (by rw [hav]; exact hargs) (by rw [hav]; exact htr0)
  unfold Oper.wp
  rw [run_enter ho hM.enters, Oper.upon_enter]
  have hLok : ∀ b p, L0 b = some p → W0.ok b ∧ b < w.heap.size ∧ ∃ p', L b = some p' := fun b p hb => by
    cases hLb : L b with
    | none => have h2 : (L b).bind (mvO mv) = some p := hb; rw [hLb] at h2; cases h2
    | some p' => exact ⟨(R.lab b p' hLb).1, (R.lab b p' hLb).2, p', rfl⟩
  refine (hM.runs w S' F L0 [] (as.map a.eval) (fun b hb => ?_) (fun b p hb => (hLok b p hb).2.1) (by simpa [C0] using hreps)).mono fun e w' hR => ?_
  · have h1 : ∀ b, S b ∨ F b → b < w.heap.size ∧ L0 b = none := fun b hb => by
      have hno := R.old b hb
      refine ⟨Nat.lt_of_lt_of_le (Bs.lt hno) R.below.size, ?_⟩
      cases hL : L0 b with
      | none => rfl
      | some p => exact absurd (hLok b p hL).1 hno
    rcases hb with hb | hb
    · have hb : (if lend = true then S b else S b ∨ F b ∨ ∃ p, L b = some p ∧ mvO mv p = none) := hb
      split at hb
      · exact h1 b (.inl hb)
      · rcases hb with hb | hb | ⟨p, hb, hb2⟩
        · exact h1 b (.inl hb)
        · exact h1 b (.inr hb)
        · exact ⟨(R.lab b p hb).2, by show (L b).bind (mvO mv) = none; rw [hb]; exact hb2⟩
    · exact h1 b (.inr hb)
  · obtain ⟨r, rs, v, Lr, hpost, rfl, hrep, hback, hlab, hbel⟩ := hR
    show Lift W0 S F n K (a.put o.dst v) w'
    have hK := hK r rs hpost
    have hbelow : W0.bel w' := R.below.trans hbel (fun b hb => by
      cases hL : L0 b with
      | none => exact absurd hL hb
      | some p => exact (hLok b p hL).1)
    have hblock : ∀ b, b < w.heap.size → L0 b = none → w'.heap[b]? = w.heap[b]? := fun b h1 h2 => hbel.block b (fun h => by
      rcases h with h | h
      · exact absurd h1 (Nat.not_lt_of_le h)
      · exact h h2)
    let gv : Nat → Bool := fun b => (L0 b).isSome || decide (w.heap.size ≤ b)
    let L1 : Nat → Option Id := fun b => if gv b = true then (Lr b).bind (rhoM Q0 av rs) else L b
    let ids := ptrs cargs av
    let m1 := chM w' m ids
    let I := s.dead cargs av rs ++ chN cargs av
    let J := J0 ++ chN cargs av
    let σ1 := updL (killS s.σ I J) (s.backs cargs av rs)
    let C := cx w S F L m s.σ
    let C1 := cx w' S F L1 m1 σ1
    have hgv : ∀ b p, Lr b = some p → gv b = true := fun b p hb => by
      rcases (hlab b p hb).1 with h | h
      · simp [gv, h]
      · cases hL : L0 b with
        | none => exact absurd hL h
        | some q => simp [gv, hL]
    have hgvn : ∀ b, b < w.heap.size → L0 b = none → gv b = false := fun b h1 h2 => by
      simp [gv, h2, h1]
    -- the arguments
    have hat : ∀ (q : Nat) (c : AV), av[q]? = some c → ∃ x, as.toList[q]? = some x ∧ c = s.ev x := fun q c hq => by
      rw [← hav, List.getElem?_map] at hq
      obtain ⟨x, h1, h2⟩ := Option.map_eq_some_iff.1 hq
      exact ⟨x, h1, h2.symm⟩
    have hrepc : ∀ (q : Nat) (c : AV), av[q]? = some c → ∃ y, (as.toList.map a.eval)[q]? = some y ∧ Rep C false (.read .ent) c y := fun q c hq => by
      obtain ⟨x, h1, rfl⟩ := hat q c hq
      exact ⟨a.eval x, by rw [List.getElem?_map, h1]; rfl, R.ev x⟩
    have hlive : ∀ x ∈ J0, (s.σ x).isSome = true := fun x hx => by
      obtain ⟨q, p, c, h1, h2, h3⟩ := roots_mem hx
      obtain ⟨y, _, hy⟩ := hrepc q c h2
      exact rootA_live R hy h3
    have hids : ∀ id ∈ ids, id ∈ rroots cargs av ∧ (s.σ id).isSome = true := fun id hid => by
      obtain ⟨q, p, sz, i, k, h1, h2⟩ := ptrs_mem hid
      refine ⟨rroots_of h1 h2 (by simp [rrootA]), hlive id (roots_of h1 h2 ?_)⟩
      exact List.mem_cons_self ..
    have hrr : ∀ x ∈ rroots cargs av, ∀ id ∈ ids, cmp (1000002 :: id) x = false := fun x hx id hid => by
      have := apartB_mem hind.2 (1000002 :: id) (List.mem_map.2 ⟨id, hid, rfl⟩)
      rw [cmp_symm]; exact hit_mem hx this
    have hsub : ∀ y, hit J y = false → hit I y = false := fun y hy => hit_sub (I := I) (J := J) (fun x hx => by
      rcases List.mem_append.1 hx with hx | hx
      · exact List.mem_append.2 (.inl (dead_sub hx))
      · exact List.mem_append.2 (.inr hx)) hy
    -- what of the roots comes back
    have hrets : ∀ x ∈ J0, x ∉ s.dead cargs av rs → x ∈ rroots cargs av ∧ ∃ ob, (x, ob) ∈ s.backs cargs av rs := fun x hx hxd => by
      obtain ⟨q, p, c, h1, h2, h3⟩ := roots_mem hx
      obtain ⟨ts', v', hg⟩ := hgiv h1 h2
      have hq : q < rs.length := by
        have e1 := hback.len
        have e2 := (List.getElem?_eq_some_iff.1 h2).1
        have e3 : av.length = as.toList.length := by rw [← hav]; simp
        simp at e1 e3
        omega
      have hrq : rs[q]? = some rs[q] := List.getElem?_eq_getElem hq
      rcases rootA_back (r := rs[q]) hg h3 with h | ⟨h, ob, hob⟩
      · exact absurd (dead_of h1 h2 hrq h) hxd
      · exact ⟨rroots_of h1 h2 h, ob, backs_of h1 h2 hrq hob⟩
    have hkeepm : ∀ y, (∀ id ∈ ids, cmp (1000002 :: id) y = false) → m1 y = m y := fun y hy => chM_out hy
    have hJch : ∀ y, hit J y = false → ∀ id ∈ ids, cmp (1000002 :: id) y = false := fun y hy id hid => hit_mem (List.mem_append.2 (.inr (List.mem_map.2 ⟨id, hid, rfl⟩))) hy
    have hJ0 : ∀ y, hit J y = false → hit J0 y = false := fun y hy => hit_sub (fun x hx => List.mem_append.2 (.inl hx)) hy
    have k : Keep C C1 I J := by
      have hold : ∀ b, S b ∨ F b → w'.heap[b]? = w.heap[b]? := fun b hb => by
        have hno := R.old b hb
        refine hblock b (Nat.lt_of_lt_of_le (Bs.lt hno) R.below.size) ?_
        cases hL : L0 b with
        | none => rfl
        | some p => exact absurd (hLok b p hL).1 hno
      refine ⟨⟨fun b h => ⟨h, hold b (.inl h)⟩, fun b h => ⟨h, hold b (.inr h)⟩⟩, hsub, fun y hy hl => ?_, fun y hy hl b q hb => ?_⟩
      · by_cases hj : hit J y = false
        · exact ⟨updL_live (.inl (killS_isSome.2 ⟨hj, hl⟩)), hkeepm y (hJch y hj)⟩
        · have hj : hit J y = true := by simpa using hj
          obtain ⟨z, hz, hc⟩ := List.any_eq_true.1 hj
          rcases List.mem_append.1 hz with hz | hz
          · have hzl := hlive z hz
            obtain rfl : z = y := R.ind z y hzl hl hc
            have hnd : z ∉ s.dead cargs av rs := fun h => by
              have := hit_mem (I := I) (List.mem_append.2 (.inl h)) hy
              rw [cmp_refl] at this; cases this
            obtain ⟨h1, ob, h2⟩ := hrets z hz hnd
            exact ⟨updL_live (.inr ⟨ob, h2⟩), hkeepm z (fun id hid => hrr z h1 id hid)⟩
          · have := hit_mem (I := I) (List.mem_append.2 (.inr hz)) hy
            rw [this] at hc; cases hc
      · have hb' : L b = some (y ++ q) := hb
        have h0 := hL0out b y q hb' (hJ0 y hy)
        have hlt := (R.lab b _ hb').2
        refine ⟨?_, hblock b hlt h0⟩
        show (if gv b = true then _ else L b) = _
        rw [hgvn b hlt h0]
        simpa using hb'
    -- what comes back
    have hLr : ∀ (q : Nat) (c rr : AV), av[q]? = some c → rs[q]? = some rr → ∀ b e, Lr b = some ([] ++ [1] ++ [0 + q] ++ e) → L1 b = rhoA Q0 c rr e ∧ w'.heap[b]? = w'.heap[b]? := fun q c rr h1 h2 b e hb => by
      refine ⟨?_, rfl⟩
      show (if gv b = true then (Lr b).bind (rhoM Q0 av rs) else L b) = _
      rw [hgv b _ hb, hb, if_pos rfl]
      simp [rhoM, h1, h2]
    have hobj : ∀ x ∈ s.backs cargs av rs, RepOb C1 x.1 x.2 := fun x hx => by
      obtain ⟨q, p, c, rr, h1, h2, h3, h4⟩ := backs_mem hx
      obtain ⟨ts', v', hg⟩ := hgiv h1 h2
      obtain ⟨y, hy, hry⟩ := hrepc q c h2
      obtain ⟨y', hy', hrr'⟩ := hback.at_ h3
      rw [Array.toList_map, hy] at hy'
      obtain rfl := Option.some.inj hy'
      refine bkA_sound R hQ (Cr := ⟨w', S', F, Lr, fun _ => undef, fun _ => False⟩) (C1 := C1) hry hg (t := [] ++ [1] ++ [0 + q]) hrr' (hLr q c rr h2 h3) ?_ (fun id hid => ?_) (fun z hz => ?_) (fun id sz i k g off hc hm j => ?_) k.st (fun id sz i kk e z els hc b qq hb hne => ?_) x h4
      · rcases hpure with hl | hpure
        · left
          refine ⟨fun b hb => ⟨?_, rfl⟩, fun b hb => ⟨hb, rfl⟩⟩
          have hb : (if lend = true then S b else _) := hb
          rw [hl, if_pos rfl] at hb
          exact hb
        · exact .inr (pureCs_at (hpure r rs hpost).2 h3)
      · exact hkeepm id (fun id' hid' => hrr id (rroots_of h1 h2 hid) id' hid')
      · exact updL_live (.inr ⟨z.2, backs_of h1 h2 h3 hz⟩)
      · subst hc
        have hid : id ∈ ids := ptrs_of h1 h2
        exact chM_in hid (fun id' hid' hcm => R.ind id' id (hids id' hid').2 (hids id hid).2 hcm) hm j
      · subst hc
        have hid : id ∈ J0 := roots_of h1 h2 (show id ∈ [id] by simp)
        have hmvx : (id ++ [Q0 id + (i * sz + kk)], [q]) ∈ mv := by
          have : ∀ (ps : List PA) (as : List AV) (q0 q : Nat) (p : AV), ps[q]? = some (.mu p) → as[q]? = some (.rd (.at id sz i kk) e z els) → (id ++ [Q0 id + (i * sz + kk)], [q0 + q]) ∈ mvG s Q0 q0 ps as := by
            intro ps
            induction ps with
            | nil => intro as q0 q p h; simp at h
            | cons p0 ps ih =>
              intro as q0 q p h1 h2
              cases as with
              | nil => simp at h2
              | cons a0 as =>
                cases q with
                | zero =>
                  obtain rfl : p0 = .mu p := by simpa using h1
                  obtain rfl : a0 = .rd (.at id sz i kk) e z els := by simpa using h2
                  simp [mvG, mvGA]
                | succ q =>
                  have := ih as (q0 + 1) q p (by simpa using h1) (by simpa using h2)
                  rw [show q0 + 1 + q = q0 + (q + 1) by omega] at this
                  cases p0 with
                  | rd p0 => simpa [mvG] using this
                  | mu p0 => simp [mvG, this]
          simpa using this cargs av 0 q p h1 h2
        have h0 : L0 b = none := by
          cases hL : L0 b with
          | none => rfl
          | some p' =>
            have h5 : (L b).bind (mvO mv) = some p' := hL
            rw [hb] at h5
            obtain ⟨x', hx', r', e1, _⟩ := mvO_some (show mvO mv (id ++ qq) = some p' from h5)
            -- the root it goes by is id itself
            have hc1 : cmp x'.1 (id ++ [Q0 id + (i * sz + kk)]) = true ∨ x'.1 = id ++ [Q0 id + (i * sz + kk)] ∨ True := .inr (.inr trivial)
            have hxr : ∃ rt ∈ J0, ∃ e', x'.1 = rt ++ e' := by
              have : ∀ {xs rs : List Id}, Exts xs rs → ∀ x ∈ xs, ∃ rt ∈ rs, ∃ e', x = rt ++ e' := by
                intro xs rs h
                induction h with
                | nil => intro x hx; simp at hx
                | cons e' h' _ ih =>
                  intro x hx
                  rcases List.mem_cons.1 hx with rfl | hx
                  · exact ⟨_, by simp, e', h'⟩
                  · obtain ⟨rt, h1, e'', h2⟩ := ih x hx
                    exact ⟨rt, by simp [h1], e'', h2⟩
              exact this hex x'.1 (List.mem_map.2 ⟨x', hx', rfl⟩)
            obtain ⟨rt, hrt, e', he'⟩ := hxr
            have hcm : cmp rt id = true := by
              have : cmp x'.1 id = true := cmp_of_append (p := x'.1) (r := r') (q := id) (r' := qq) e1.symm
              rw [he'] at this
              exact cmp_ext this
            have hrt' : rt = id := R.ind rt id (hlive rt hrt) (hlive id hid) hcm
            -- the entries of the move list are told apart by their roots
            have hpair : x' = (id ++ [Q0 id + (i * sz + kk)], [q]) := by
              by_cases heq : x' = (id ++ [Q0 id + (i * sz + kk)], [q])
              · exact heq
              · exfalso
                have key : ∀ {mv : List (Id × Id)} {rs : List Id}, Exts (mv.map (·.1)) rs → indep rs = true → ∀ x ∈ mv, ∀ y ∈ mv, ∀ rt, (∃ e, x.1 = rt ++ e) → (∃ e, y.1 = rt ++ e) → rt ∈ rs → x = y := by
                  intro mv
                  induction mv with
                  | nil => intro rs _ _ x hx; simp at hx
                  | cons z mv ih =>
                    intro rs hE hI x hx y hy rt hxe hye hrt
                    cases rs with
                    | nil => cases hE
                    | cons r0 rs =>
                      cases hE with
                      | cons e0 hz hE =>
                        simp only [indep, Bool.and_eq_true, Bool.not_eq_true'] at hI
                        have hzr : ∀ rt, (∃ e, z.1 = rt ++ e) → rt ∈ r0 :: rs → rt = r0 := fun rt ⟨e, he⟩ hrt => by
                          rcases List.mem_cons.1 hrt with h | h
                          · exact h
                          · have : cmp rt r0 = true := cmp_of_append (p := rt) (r := e) (q := r0) (r' := e0) (he.symm.trans hz)
                            rw [hit_mem h hI.1] at this; cases this
                        have hmr : ∀ u ∈ mv, ∀ rt, (∃ e, u.1 = rt ++ e) → rt ∈ r0 :: rs → rt ∈ rs := fun u hu rt ⟨e, he⟩ hrt => by
                          rcases List.mem_cons.1 hrt with h | h
                          · subst h
                            exfalso
                            have h7 := hE.out hI.1
                            have h8 := hit_mem (List.mem_map.2 ⟨u, hu, rfl⟩) h7
                            have : cmp u.1 rt = true := cmp_of_append (p := u.1) (r := []) (q := rt) (r' := e) (by simpa using he)
                            rw [h8] at this; cases this
                          · exact h
                        rcases List.mem_cons.1 hx with rfl | hx' <;> rcases List.mem_cons.1 hy with rfl | hy'
                        · rfl
                        · have e1 := hzr rt hxe hrt
                          have e2 := hmr y hy' rt hye hrt
                          subst e1
                          have := hit_mem e2 hI.1
                          rw [cmp_refl] at this; cases this
                        · have e1 := hzr rt hye hrt
                          have e2 := hmr x hx' rt hxe hrt
                          subst e1
                          have := hit_mem e2 hI.1
                          rw [cmp_refl] at this; cases this
                        · exact ih hE hI.2 x hx' y hy' rt hxe hye (hmr x hx' rt hxe hrt)
                exact heq (key hex hind.1 x' hx' _ hmvx id ⟨e', by rw [he', hrt']⟩ ⟨[_], rfl⟩ hid)
            rw [hpair] at e1
            simp only [List.append_assoc] at e1
            have := List.append_cancel_left e1
            exact absurd this (hne r')
        have hlt := (R.lab b _ hb).2
        refine ⟨?_, hblock b hlt h0⟩
        show (if gv b = true then _ else L b) = _
        rw [hgvn b hlt h0]
        simpa using hb
    have hbkey : ∀ x ∈ s.backs cargs av rs, x.1 ∈ rroots cargs av ∨ ∃ id ∈ ids, ∃ j, x.1 = 1000002 :: id ++ [j] := fun x hx => by
      obtain ⟨q, p, c, rr, h1, h2, h3, h4⟩ := backs_mem hx
      rcases bkA_key h4 with h | ⟨id, sz, i, k, j, rfl, h⟩
      · exact .inl (rroots_of h1 h2 h)
      · exact .inr ⟨id, ptrs_of h1 h2, j, h⟩
    have hrrl : ∀ x ∈ rroots cargs av, x ∈ J0 := fun x hx => by
      have : ∀ (ps : List PA) (as : List AV), x ∈ rroots ps as → x ∈ s.roots ps as := by
        intro ps
        induction ps with
        | nil => intro as h; simp [rroots] at h
        | cons p ps ih =>
          intro as h
          cases as with
          | nil => cases p <;> simp [rroots] at h
          | cons c as =>
            cases p with
            | rd p => rw [rroots] at h; rw [St.roots]; exact ih as h
            | mu p =>
              rw [rroots, List.mem_append] at h
              rw [St.roots, List.mem_append]
              refine h.imp (fun h => ?_) (ih as)
              cases c with
              | ptr id sz i k =>
                obtain rfl : x = id := by simpa [rrootA] using h
                exact List.mem_cons_self ..
              | _ => exact h
      exact this cargs av hx
    have hback_hit : ∀ x ∈ s.backs cargs av rs, ∀ y, hit J y = false → cmp x.1 y = false := fun x hx y hy => by
      rcases hbkey x hx with h | ⟨id, hid, j, h⟩
      · exact hit_mem (List.mem_append.2 (.inl (hrrl _ h))) hy
      · have h1 := hJch y hy id hid
        cases hc : cmp x.1 y with
        | false => rfl
        | true =>
          rw [h] at hc
          rw [show cmp (1000002 :: id) y = true from cmp_ext (r := 1000002 :: id) (e := [j]) hc] at h1; cases h1
    have hmid : RelC W0 S F n L1 m1 (s.mid cargs av rs) a w' := by
      refine ⟨R.size, R.defers, fun d => Rep.keep k _ _ (R.env d), fun x ob hob => ?_, fun b p hb => ?_, fun x y hx hy hc => ?_, R.old, hbelow⟩
      · rcases updL_some hob with h1 | ⟨h1, _⟩
        · exact hobj _ h1
        · obtain ⟨hj, ob0, h0, rfl⟩ := killS_some h1
          exact RepOb.keep k hj (show (s.σ x).isSome = true by rw [h0]; rfl) (R.obj x ob0 h0)
      · have hb : (if gv b = true then (Lr b).bind (rhoM Q0 av rs) else L b) = some p := hb
        split at hb
        · cases hLb : Lr b with
          | none => rw [hLb] at hb; cases hb
          | some p' =>
            have h1 := hlab b p' hLb
            refine ⟨?_, h1.2⟩
            rcases h1.1 with h2 | h2
            · exact .inl (Nat.le_trans R.below.size h2)
            · cases hL : L0 b with
              | none => exact absurd hL h2
              | some q => exact (hLok b q hL).1
        · exact ⟨(R.lab b p hb).1, Nat.lt_of_lt_of_le (R.lab b p hb).2 hbel.size⟩
      · obtain ⟨o1, h1⟩ := Option.isSome_iff_exists.1 hx
        obtain ⟨o2, h2⟩ := Option.isSome_iff_exists.1 hy
        rcases updL_some (show updL (killS s.σ I J) (s.backs cargs av rs) x = some o1 from h1) with h1 | ⟨h1, _⟩ <;> rcases updL_some (show updL (killS s.σ I J) (s.backs cargs av rs) y = some o2 from h2) with h2 | ⟨h2, _⟩
        · rcases hbkey _ h1 with g1 | ⟨id1, hid1, j1, g1⟩ <;> rcases hbkey _ h2 with g2 | ⟨id2, hid2, j2, g2⟩
          · exact R.ind x y (hlive _ (hrrl _ g1)) (hlive _ (hrrl _ g2)) hc
          · have e2 : y = 1000002 :: id2 ++ [j2] := g2
            have := hrr x g1 id2 hid2
            rw [e2, cmp_symm] at hc
            rw [cmp_ext hc] at this; cases this
          · have e1 : x = 1000002 :: id1 ++ [j1] := g1
            have := hrr y g2 id1 hid1
            rw [e1] at hc
            rw [cmp_ext hc] at this; cases this
          · have e1 : x = 1000002 :: id1 ++ [j1] := g1
            have e2 : y = 1000002 :: id2 ++ [j2] := g2
            subst e1; subst e2
            have h7 : cmp (id1 ++ [j1]) (id2 ++ [j2]) = true := by
              have := (cmp_cons (p := []) (k := 1000002) (k' := 1000002) (r := id1 ++ [j1]) (r' := id2 ++ [j2]) (by simpa using hc)).2
              exact this
            have h8 : cmp id1 id2 = true := by
              have h9 := cmp_ext h7
              rw [cmp_symm] at h9
              have h10 := cmp_ext h9
              rw [cmp_symm]; exact h10
            have h11 : id1 = id2 := R.ind id1 id2 (hids id1 hid1).2 (hids id2 hid2).2 h8
            subst h11
            have := (cmp_cons (p := id1) (k := j1) (k' := j2) (r := []) (r' := []) (by simpa using h7)).1
            rw [this]
        · rw [hback_hit _ h1 y (killS_some h2).1] at hc; cases hc
        · rw [cmp_symm, hback_hit _ h2 x (killS_some h1).1] at hc; cases hc
        · exact R.ind x y (by obtain ⟨_, _, g, _⟩ := killS_some h1; rw [g]; rfl) (by obtain ⟨_, _, g, _⟩ := killS_some h2; rw [g]; rfl) hc
    cases hdst : o.dst with
    | none =>
      rw [hdst] at hK
      exact ⟨_, ⟨L1, m1, hmid⟩, hK⟩
    | some d =>
      rw [hdst] at hK hd
      refine ⟨_, hmid.result (Ld := fun b => match Lr b with | some (0 :: p) => some (d :: p) | _ => none) hd (fun b => rfl) (fun b p hb => ?_) (fun m' σ' => ?_), hK⟩
      · have : ∃ q, Lr b = some (0 :: q) := by
          cases h : Lr b with
          | none => simp [h] at hb
          | some q =>
            match q with
            | [] => simp [h] at hb
            | 0 :: q => exact ⟨q, rfl⟩
            | (z + 1) :: q => simp [h] at hb
        obtain ⟨q, hq⟩ := this
        have h1 := hlab b _ hq
        refine ⟨?_, h1.2, ?_⟩
        · rcases h1.1 with h2 | h2
          · exact .inl (Nat.le_trans R.below.size h2)
          · cases hL : L0 b with
            | none => exact absurd hL h2
            | some q => exact (hLok b q hL).1
        · show (if gv b = true then (Lr b).bind (rhoM Q0 av rs) else L b) = none
          rw [hgv b _ hq, hq, if_pos rfl]
          rfl
      · have htr : Tr ⟨w', S', F, Lr, fun _ => undef, fun _ => False⟩ (cx w' S F (fun b => match (match Lr b with | some (0 :: p) => some (d :: p) | _ => none : Option Id) with | some p => some p | none => L1 b) m' σ') (.own ([] ++ [0])) (.own [d]) := fun b q hb => ⟨by
          have hb' : Lr b = some (0 :: q) := hb
          show (match (match Lr b with | some (0 :: p) => some (d :: p) | _ => none : Option Id) with | some p => some p | none => L1 b) = _
          rw [hb']; rfl, rfl⟩
        rcases hpure with hl | hpure
        · have hst : Stays ⟨w', S', F, Lr, fun _ => undef, fun _ => False⟩ (cx w' S F (fun b => match (match Lr b with | some (0 :: p) => some (d :: p) | _ => none : Option Id) with | some p => some p | none => L1 b) m' σ') := ⟨fun b hb => ⟨by
            have hb : (if lend = true then S b else _) := hb
            rw [hl, if_pos rfl] at hb
            exact hb, rfl⟩, fun b hb => ⟨hb, rfl⟩⟩
          exact Rep.tr hst htr _ _ hrep
        · exact Rep.trP htr _ _ (hpure r rs hpost).1 hrep
theorem call_sound {o : Oper} {f : FuncId} {as : Array Operand} {ts : Array TypeId} (ho : o.op = .call ⟨.value (.func f), as, ts⟩) (hd : dOk n o.dst) (R : RelC W0 S F n L m s a w) (h : CallE P H f (as.toList.map s.ev) s o.dst K) (Q : Exit → Act → World → Prop) :
    o.wp P a w (fun a' w' => Lift W0 S F n K a' w' ∧ (H 1000000 = 1 → Grows w w')) Q := by
  rcases h with h | h | ⟨hH, h⟩
  · exact Go.Oper.wp_mono (fun a' w' hh => ⟨hh.1, fun _ => hh.2⟩) (callR_sound ho hd R h Q)
  · exact Go.Oper.wp_mono (fun a' w' hh => ⟨hh.1, fun _ => hh.2⟩) (callF_sound ho hd R h Q)
  · exact Go.Oper.wp_mono (fun a' w' hh => ⟨hh, fun h1 => by rw [hH] at h1; cases h1⟩) (callM_sound ho hd R h Q)
end
end Go.Ev
set_option linter.unusedVariables false
set_option linter.unusedSimpArgs false
namespace Go.Ev
open Go Go.RowKit
section
variable {P : Program} {H : Nat → Nat} {W0 : Bs} {S F : Nat → Prop} {n : Nat} {L : Nat → Option Id} {m : Id → Value} {s : St} {a : Act} {w : World} {K : St → Prop}
theorem ES.wp {gr : Bool} {o : Oper} (h : ES gr P W0 S F n K o a w) (hg : growOp o.op = true → gr = true) (Q : Exit → Act → World → Prop) : o.wp P a w (fun a' w' => Lift W0 S F n K a' w' ∧ (growOp o.op = true → Grows w w')) Q := by
  obtain ⟨v, w', s', hrun, hR, hK, hG⟩ := h
  unfold Oper.wp
  rcases hrun with hrun | ⟨hrun, rfl⟩
  · rw [hrun]; exact ⟨⟨s', hR, hK⟩, fun h => hG (hg h)⟩
  · rw [hrun]; exact ⟨⟨s', hR, hK⟩, fun h => hG (hg h)⟩
theorem QS.wp {mf : Bool} {o : Oper} (h : QS mf P W0 S F n K o a w) (Q : Exit → Act → World → Prop) : o.wp P a w (fun a' w' => Lift W0 S F n K a' w' ∧ (growOp o.op = true → Grows w w')) Q := by
  obtain ⟨v, s', hrun, hR, hK⟩ := h
  unfold Oper.wp
  rw [hrun w (.inr (Grows.refl w))]; exact ⟨⟨s', hR, hK⟩, fun _ => Grows.refl w⟩
theorem e_store {o : Oper} {T : TypeId} {x y : Operand} (ho : o.op = .store T x y) (hd : dOk n o.dst) (R : RelC W0 S F n L m s a w) (h : opE P H o.dst (.store T x y) s K) : ES false P W0 S F n K o a w := by
  obtain ⟨t, ht, hlen, h1⟩ := onSome.elim (show onSome _ _ from h)
  rcases onAdr.elim h1 with ⟨_, _, _, _, _, _, _, h2⟩ | ⟨id, sz', i, k, hv, h2⟩
  · exact h2.elim
  · rcases onOB.elim h2 with ⟨e, sz, els, hs, h3⟩ | ⟨t', cs, hs, h3⟩
    · obtain ⟨cs, hcs, h3⟩ := onSome.elim h3
      obtain ⟨⟨vs, I⟩, hcl, ⟨hsz, hk, hind, hh⟩, h4⟩ := onSome.elim h3
      have hsz : sz = sz' := hsz
      subst hsz
      exact e_store_row ho hd R ht hv hs hcs hcl hlen hk hind hh h4
    · obtain ⟨⟨hi, hk, hok⟩, h4⟩ := h3
      have hi : i = 0 := hi
      subst hi
      exact e_store_box ho hd R ht hv hs hlen hk hok h4
theorem e_convert {o : Oper} {src dt : TypeId} {x : Operand} (ho : o.op = .convert src dt x) (hd : dOk n o.dst) (R : RelC W0 S F n L m s a w) (h : opE P H o.dst (.convert src dt x) s K) : ES false P W0 S F n K o a w := by
  by_cases hc : cvTy P src dt = some .same
  · obtain ⟨c, hc', h1⟩ := onSome.elim (show onSome _ _ from h)
    rw [hc] at hc'
    obtain rfl := Option.some.inj hc'
    rcases onRef.elim h1 with ⟨id, hv, h2⟩ | ⟨_, _, h2⟩ | h2
    · rcases onOB.elim h2 with ⟨u, sz, els, hs, ⟨h3, h4⟩, h5⟩ | ⟨_, _, _, h3⟩
      · have h3 : sz = 1 := h3
        subst h3
        exact e_convert_same ho hd R hc hv hs h4 h5
      · exact h3.elim
    · exact h2.elim
    · exact h2.elim
  · by_cases hno : ∃ e, cvTy P src dt = some (.ofs e)
    · obtain ⟨e, hno⟩ := hno
      obtain ⟨c, hc', h1⟩ := onSome.elim (show onSome _ _ from h)
      rw [hno] at hc'
      obtain rfl := Option.some.inj hc'
      obtain ⟨d, hdst, h2⟩ := onSome.elim h1
      rcases onRef.elim h2 with ⟨id, hv, h3⟩ | ⟨b, hv, h3⟩ | h3
      · exact h3.elim
      · obtain ⟨h4, h5⟩ := h3
        exact e_convert_ofs ho hd R hno hdst hv h4 h5
      · exact h3.elim
    obtain ⟨v, s', hrun, hR, hK⟩ := q_convert ho hd R h hc (fun e he => hno ⟨e, he⟩)
    exact ⟨v, w, s', .inl (hrun w (.inr (Grows.refl w))), hR, hK, fun h => by cases h⟩
theorem op_sound {o : Oper} (hd : dOk n o.dst) (R : RelC W0 S F n L m s a w) (h : opE P H o.dst o.op s K) (Q : Exit → Act → World → Prop) : o.wp P a w (fun a' w' => Lift W0 S F n K a' w' ∧ (H 1000000 = 1 → growOp o.op = true → Grows w w')) Q := by
  by_cases hq : quietOp o.op = true
  · exact Go.Oper.wp_mono (fun a' w' hh => ⟨hh.1, fun _ => hh.2⟩) ((quiet_sound hq hd R h).wp Q)
  · cases ho : o.op with
    | store T x y => rw [ho] at h; rw [← ho]; exact Go.Oper.wp_mono (fun a' w' hh => ⟨hh.1, fun _ => hh.2⟩) ((e_store ho hd R h).wp (fun h => by rw [ho] at h; cases h) Q)
    | convert src dt x => rw [ho] at h hq; rw [← ho]; exact Go.Oper.wp_mono (fun a' w' hh => ⟨hh.1, fun _ => hh.2⟩) ((e_convert ho hd R h).wp (fun hg => by rw [ho] at hg; exact absurd hg hq) Q)
    | makeSlice T x y => rw [ho] at h; rw [← ho]; exact Go.Oper.wp_mono (fun a' w' hh => ⟨hh.1, fun _ => hh.2⟩) ((e_make ho hd R h).wp (fun _ => rfl) Q)
    | buildSlice T l ps => rw [ho] at h; rw [← ho]; exact Go.Oper.wp_mono (fun a' w' hh => ⟨hh.1, fun _ => hh.2⟩) ((e_build ho hd R h).wp (fun _ => rfl) Q)
    | box T x => rw [ho] at h; rw [← ho]; exact Go.Oper.wp_mono (fun a' w' hh => ⟨hh.1, fun _ => hh.2⟩) ((e_box ho hd R h).wp (fun _ => rfl) Q)
    | makeMap T r => cases r with
      | none => rw [ho] at h; rw [← ho]; exact Go.Oper.wp_mono (fun a' w' hh => ⟨hh.1, fun _ => hh.2⟩) ((e_makeMap ho hd R h).wp (fun _ => rfl) Q)
      | some r => rw [ho] at h; exact False.elim h
    | mapUpdate T x i y => rw [ho] at h; rw [← ho]; exact Go.Oper.wp_mono (fun a' w' hh => ⟨hh.1, fun _ => hh.2⟩) ((e_mapUpdate ho hd R h).wp (fun h => by rw [ho] at h; cases h) Q)
    | alloc T => rw [ho] at h; rw [← ho]; exact Go.Oper.wp_mono (fun a' w' hh => ⟨hh.1, fun _ => hh.2⟩) ((e_alloc ho hd R h).wp (fun _ => rfl) Q)
    | call c =>
      rw [ho] at h hq
      obtain ⟨callee, args, tys⟩ := c
      have h' : callOp P H o.dst ⟨callee, args, tys⟩ s K := h
      unfold callOp at h'
      split at h'
      · rename_i e
        have e' : callee = _ := e
        subst e'
        rw [← ho]; exact Go.Oper.wp_mono (fun a' w' hh => ⟨hh.1, fun h1 _ => hh.2 h1⟩) (call_sound ho hd R h' Q)
      · rename_i e
        have e' : callee = _ := e
        subst e'
        obtain ⟨f, cs, h1, h2⟩ := onFn.elim h'
        rw [← ho]; exact Go.Oper.wp_mono (fun a' w' hh => ⟨hh.1, fun _ _ => hh.2⟩) (callV_sound ho hd R (h2 (R.ev _)) h1 Q)
      · rename_i e1 e2 e3
        have e1' : callee = _ := e1
        subst e1'; simp [quietOp] at hq
      · rename_i e1 e2 e3
        have e1' : callee = _ := e1
        subst e1'; simp [quietOp] at hq
      · rename_i e1 e2 e3
        have e1' : callee = _ := e1
        have e2' : args = _ := e2
        have e3' : tys = _ := e3
        subst e1'; subst e2'; subst e3'
        rw [← ho]; exact Go.Oper.wp_mono (fun a' w' hh => ⟨hh.1, fun _ => hh.2⟩) ((e_appendOp ho hd R h).wp (fun h => by rw [ho] at h; cases h) Q)
      · rename_i e
        have e' : callee = _ := e
        subst e'
        obtain ⟨t, y, hx, h1⟩ := onIfc.elim h'
        obtain ⟨f, hm, h2⟩ := onSome.elim h1
        rw [← ho]; exact Go.Oper.wp_mono (fun a' w' hh => ⟨hh.1, fun _ _ => hh.2⟩) (callI_sound ho hd R hx hm h2 Q)
      · rename_i e1 e2
        have e1' : callee = _ := e1
        subst e1'; simp [quietOp] at hq
      · exact h'.elim
    | _ => rw [ho] at h hq; first | exact (hq rfl).elim | exact False.elim h
theorem RelC.setEnv (R : RelC W0 S F n L m s a w) {d : Nat} {x : AV} (h : Rep (cx w S F L m s.σ) false (.read .ent) x (a.tmps.getD d undef)) : RelC W0 S F n L m (s.put (some d) x) a w := by
  refine ⟨R.size, R.defers, fun k => ?_, R.obj, R.lab, R.ind, R.old, R.below⟩
  show Rep (cx w S F L m s.σ) false (.read .ent) (upd s.env d x k) (a.tmps.getD k undef)
  unfold upd
  by_cases e : k = d
  · subst e
    rw [show (k == k) = true by simp]
    exact h
  · rw [show (k == d) = false by simpa using e]
    exact R.env k
def renL (L : Nat → Option Id) (oid cid : Id) (b : Nat) : Option Id := match L b with
  | some p => if oid <+: p then some (cid ++ p.drop oid.length) else some p
  | none => none
theorem renL_at {L : Nat → Option Id} {oid cid q : Id} {b : Nat} (h : L b = some (oid ++ q)) : renL L oid cid b = some (cid ++ q) := by
  unfold renL
  rw [h]
  simp
theorem renL_not {L : Nat → Option Id} {oid cid p : Id} {b : Nat} (h : L b = some p) (hn : ¬ oid <+: p) : renL L oid cid b = some p := by
  unfold renL
  rw [h]
  simp [hn]
theorem RelC.ren (R : RelC W0 S F n L m s a w) {oid cid : Id} {e sz : Nat} {els : List (List AV)} (ho : s.σ oid = some (.row e sz els)) :
    RelC W0 S F n (renL L oid cid) (fun y => if y = cid then m oid else m y) ((s.chg [oid, cid] [oid, cid]).obj cid (.row e sz els)) a w := by
  have stays : ∀ σ', Stays (cx w S F L m s.σ) (cx w S F (renL L oid cid) (fun y => if y = cid then m oid else m y) σ') := fun _ => ⟨fun _ h => ⟨h, rfl⟩, fun _ h => ⟨h, rfl⟩⟩
  have kp : Keep (cx w S F L m s.σ) (cx w S F (renL L oid cid) (fun y => if y = cid then m oid else m y) (updS (killS s.σ [oid, cid] [oid, cid]) cid (.row e sz els))) [oid, cid] [oid, cid] := by
    refine ⟨stays _, fun _ h => h, fun y hy hl => ?_, fun y hy hl b q hb => ⟨?_, rfl⟩⟩
    · have hne : y ≠ cid := fun e => by subst e; rw [hit_self (by simp)] at hy; cases hy
      refine ⟨?_, if_neg hne⟩
      show (updS _ _ _ y).isSome = true
      have e1 : (y == cid) = false := by simpa using hne
      unfold updS
      rw [e1]
      exact killS_isSome.2 ⟨hy, hl⟩
    · refine renL_not hb fun hp => ?_
      obtain ⟨z, hz⟩ := hp
      have := cmp_of_append hz
      have hy : (cmp oid y || (cmp cid y || false)) = false := hy
      rw [this] at hy; cases hy
  refine R.upd1 (by simp) kp ?_ (fun b p hb => ?_) R.below
  · have h0 : Rep (cx w S F L m s.σ) true (.own oid) (.row e sz els) (m oid) := R.obj oid _ ho
    show Rep _ true (.own cid) (.row e sz els) (if cid = cid then m oid else m cid)
    rw [if_pos rfl]
    exact Rep.tr (stays _) (md := .own oid) (md' := .own cid) (fun b r hb => ⟨renL_at hb, rfl⟩) _ _ h0
  · unfold renL at hb
    cases hL : L b with
    | none => rw [hL] at hb; cases hb
    | some p' => exact R.lab b p' hL
theorem mv_rel {id : Id} {k : Nat} {oid cid : Id} {e sz t : Nat} {cs : List AV} {els : List (List AV)} (h : s.σ id = some (.box t cs)) (hk : cs[k]? = some (.ref oid)) (ho : s.σ oid = some (.row e sz els)) (h1 : cmp cid id = false) (h2 : cmp oid id = false) :
    Rel W0 S F n s a w → Rel W0 S F n (((s.chg [oid, cid] [oid, cid]).obj cid (.row e sz els)).obj id (.box t ((killL [oid, cid] [oid, cid] cs).set k (.ref cid)))) a w := by
  rintro ⟨L, m, R⟩
  have R' := R.ren (cid := cid) ho
  let s1 := (s.chg [oid, cid] [oid, cid]).obj cid (.row e sz els)
  let m1 : Id → Value := fun y => if y = cid then m oid else m y
  have hne' : id ≠ cid := fun e => by subst e; rw [cmp_refl] at h1; cases h1
  have hs1 : s1.σ id = some (.box t (killL [oid, cid] [oid, cid] cs)) := by
    show updS _ _ _ _ = _
    have e1 : (id == cid) = false := by simpa using hne'
    have h0 : hit [oid, cid] id = false := by simp [hit, h1, h2]
    simp only [updS, e1, sel, St.chg, killS, h0, h, mapOB, OB.kill]
  let σ2 := updS s1.σ id (.box t ((killL [oid, cid] [oid, cid] cs).set k (.ref cid)))
  have hcx : ∀ L, cx w S F L m1 σ2 = cx w S F L m1 s1.σ := fun L => by
    unfold cx
    congr 1
    funext y
    have : (σ2 y).isSome = (s1.σ y).isSome := by
      show (updS s1.σ id _ y).isSome = _
      unfold updS
      by_cases e : y = id
      · subst e
        rw [hs1]; simp [sel]
      · have e1 : (y == id) = false := by simpa using e
        rw [e1]; rfl
    rw [this]
  refine ⟨_, m1, ⟨R'.size, R'.defers, fun d => ?_, fun y ob hy => ?_, R'.lab, fun x y hx hy hc => ?_, R'.old, R'.below⟩⟩
  · show Rep (cx w S F _ m1 σ2) false (.read .ent) _ _
    rw [hcx]; exact R'.env d
  · show RepOb (cx w S F _ m1 σ2) y ob
    rw [hcx]
    have hy : updS s1.σ id (.box t ((killL [oid, cid] [oid, cid] cs).set k (.ref cid))) y = some ob := hy
    unfold updS at hy
    by_cases e1 : y = id
    · subst e1
      simp only [beq_self_eq_true, sel, Option.some.injEq] at hy
      subst hy
      obtain ⟨g, arr, g1, g2, g3, g4, g5⟩ := R'.obj y _ hs1
      obtain ⟨g', arr', k1, k2, k3, k4, k5⟩ := R.obj y _ h
      have hm1 : m1 y = m y := if_neg hne'
      have gg : g' = g := by
        have e1 : m1 y = .pointer (some ⟨g, 0, none⟩) := g1
        have e2 : m y = .pointer (some ⟨g', 0, none⟩) := k1
        rw [hm1, e2] at e1
        simpa using e1
      subst gg
      have aa : arr' = arr := by
        have e1 : w.heap[g']? = some (.cells arr t (0, 0)) := g3
        have e2 : w.heap[g']? = some (.cells arr' t (0, 0)) := k3
        rw [e2] at e1
        simpa using e1
      refine ⟨g', arr, g1, g2, g3, by rw [List.length_set]; exact g4, RepCs.of fun j c hj => ?_⟩
      rw [List.getElem?_set] at hj
      split at hj
      · rename_i e2
        subst e2
        split at hj
        · obtain rfl := Option.some.inj hj
          obtain ⟨y', q1, q2, q3⟩ := k5.at_ hk
          have e3 : (s1.σ cid).isSome = true := by show (updS _ _ _ cid).isSome = true; simp [updS, sel]
          exact ⟨y', q1, q2, rfl, q2, e3, by rw [q3.2.2.2]; exact (if_pos rfl).symm⟩
        · cases hj
      · exact g5.at_ hj
    · have e2 : (y == id) = false := by simpa using e1
      rw [e2] at hy
      exact R'.obj y ob hy
  · have key : ∀ y, (σ2 y).isSome = true → (s1.σ y).isSome = true := fun y hy => by
      have hy : (updS s1.σ id (.box t ((killL [oid, cid] [oid, cid] cs).set k (.ref cid))) y).isSome = true := hy
      unfold updS at hy
      by_cases e : y = id
      · subst e; rw [hs1]; rfl
      · have e1 : (y == id) = false := by simpa using e
        rw [e1] at hy; exact hy
    exact R'.ind x y (key x hx) (key y hy) hc
theorem Wk.rel {s s' : St} (hw : Wk s s') : Rel W0 S F n s a w → Rel W0 S F n s' a w := by
  induction hw with
  | refl s => exact fun h => h
  | @nil s s' d id e sz h k ih =>
    rintro ⟨L, m, R⟩
    have hv := R.env d
    rw [h] at hv
    have R' := R.nilRow id e sz
    have e1 : ((s.chg [id] [id]).obj id (.row e sz [])).σ id = some (.row e sz []) := by show updS _ _ _ _ = _; simp [updS, sel]
    exact ih ⟨_, _, R'.setEnv (x := .ref id) ⟨rfl, by rw [hv.1]; trivial, RelC.live e1, by rw [hv.1]; exact (if_pos rfl).symm⟩⟩
  | @box s s' id k cid e sz t cs h hk hne kw ih =>
    rintro ⟨L, m, R⟩
    have R' := R.nilRow cid e sz
    let s1 := (s.chg [cid] [cid]).obj cid (.row e sz [])
    let m1 : Id → Value := fun y => if y = cid then .slice none 0 0 else m y
    have hne' : id ≠ cid := fun e => by subst e; rw [cmp_refl] at hne; cases hne
    have hs1 : s1.σ id = some (.box t (killL [cid] [cid] cs)) := by
      show updS _ _ _ _ = _
      have e1 : (id == cid) = false := by simpa using hne'
      have h0 : hit [cid] id = false := by simp [hit, hne]
      simp only [updS, e1, sel, St.chg, killS, h0, h, mapOB, OB.kill]
    let σ2 := updS s1.σ id (.box t ((killL [cid] [cid] cs).set k (.ref cid)))
    have hcx : cx w S F L m1 σ2 = cx w S F L m1 s1.σ := by
      unfold cx
      congr 1
      funext y
      have : (σ2 y).isSome = (s1.σ y).isSome := by
        show (updS s1.σ id _ y).isSome = _
        unfold updS
        by_cases e : y = id
        · subst e
          rw [hs1]; simp [sel]
        · have e1 : (y == id) = false := by simpa using e
          rw [e1]; rfl
      rw [this]
    refine ih ⟨L, m1, ⟨R'.size, R'.defers, fun d => ?_, fun y ob hy => ?_, R'.lab, fun x y hx hy hc => ?_, R'.old, R'.below⟩⟩
    · show Rep (cx w S F L m1 σ2) false (.read .ent) _ _
      rw [hcx]; exact R'.env d
    · show RepOb (cx w S F L m1 σ2) y ob
      rw [hcx]
      have hy : updS s1.σ id (.box t ((killL [cid] [cid] cs).set k (.ref cid))) y = some ob := hy
      unfold updS at hy
      by_cases e1 : y = id
      · subst e1
        simp only [beq_self_eq_true, sel, Option.some.injEq] at hy
        subst hy
        obtain ⟨g, arr, h1, h2, h3, h4, h5⟩ := R'.obj y _ hs1
        refine ⟨g, arr, h1, h2, h3, by rw [List.length_set]; exact h4, RepCs.of fun j c hj => ?_⟩
        rw [List.getElem?_set] at hj
        split at hj
        · rename_i e2
          subst e2
          split at hj
          · obtain rfl := Option.some.inj hj
            have hkk : (killL [cid] [cid] cs)[k]? = some (.v (.slice none 0 0)) := by
              have : ∀ (cs : List AV) (k : Nat), cs[k]? = some (.v (.slice none 0 0)) → (killL [cid] [cid] cs)[k]? = some (.v (.slice none 0 0)) := by
                intro cs
                induction cs with
                | nil => intro k h; simp at h
                | cons c cs ih =>
                  intro k h
                  cases k with
                  | zero => obtain rfl : c = _ := by simpa using h
                            rfl
                  | succ k => simpa [killL] using ih k (by simpa using h)
              exact this cs k hk
            obtain ⟨y', k1, k2, k3⟩ := h5.at_ hkk
            have e3 : (s1.σ cid).isSome = true := by show (updS _ _ _ cid).isSome = true; simp [updS, sel]
            exact ⟨y', k1, k2, rfl, k2, e3, by rw [k3.1]; exact (if_pos rfl).symm⟩
          · cases hj
        · exact h5.at_ hj
      · have e2 : (y == id) = false := by simpa using e1
        rw [e2] at hy
        exact R'.obj y ob hy
    · have key : ∀ y, (σ2 y).isSome = true → (s1.σ y).isSome = true := fun y hy => by
        have hy : (updS s1.σ id (.box t ((killL [cid] [cid] cs).set k (.ref cid))) y).isSome = true := hy
        unfold updS at hy
        by_cases e : y = id
        · subst e; rw [hs1]; rfl
        · have e1 : (y == id) = false := by simpa using e
          rw [e1] at hy; exact hy
      exact R'.ind x y (key x hx) (key y hy) hc
  | mv id k oid cid e sz t cs els h hk ho hne hno kw ih => exact fun hr => ih (mv_rel h hk ho hne hno hr)
theorem guard_cases {ops : Array Oper} {o : Oper} {l : List SOp} {Q' : St → Prop} (R : RelC W0 S F n L m s a w) (h : opsE P H (strip ops o :: l) s Q') :
    (Region.wanted o (yielded ops a.tmps) = true ∧ ∃ s', RelC W0 S F n L m s' a w ∧ opE P H o.dst o.op s' (fun s' => opsE P H l s' Q')) ∨
    (Region.wanted o (yielded ops a.tmps) = false ∧ ∃ s', RelC W0 S F n L m s' a w ∧ opsE P H l (s'.put o.dst (.tup [])) Q') := by
  cases hg : o.guard with
  | none =>
    rw [show strip ops o = ⟨o.dst, o.op, none⟩ by simp [strip, hg, gOf]] at h
    exact .inl ⟨by simp [Region.wanted, hg], s, R, h⟩
  | some g =>
    obtain ⟨j, want⟩ := g
    cases hc : (ops[j]?).bind (·.dst) with
    | none =>
      rw [show strip ops o = ⟨o.dst, o.op, some (none, want)⟩ by simp [strip, hg, gOf, dstO_bind, hc]] at h
      exact False.elim h
    | some c =>
      rw [show strip ops o = ⟨o.dst, o.op, some (some c, want)⟩ by simp [strip, hg, gOf, dstO_bind, hc]] at h
      rcases onGd.elim (show onGd _ _ _ from h) with ⟨t, ht, h1⟩ | ⟨ht, h1⟩
      case inr =>
        have hR := R.env c
        rw [ht] at hR
        obtain ⟨vs, hv, _⟩ := hR
        have hw : Region.wanted o (yielded ops a.tmps) = false := by
          cases hx : a.tmps[c]? with
          | none => simp [Region.wanted, hg, yielded, hc, hx]
          | some x =>
            have : x = .tuple vs := by simpa [Array.getD_eq_getD_getElem?, hx] using hv
            subst this
            simp [Region.wanted, hg, yielded, hc, hx]
        exact .inr ⟨hw, s, R, h1⟩
      have hR := R.env c
      rw [ht] at hR
      have hv : a.tmps.getD c undef = .bool t := hR.1
      have hv' : a.tmps[c]? = some (.bool t) := by
        cases hx : a.tmps[c]? with
        | none => simp [Array.getD_eq_getD_getElem?, hx, undef] at hv
        | some x => simp [Array.getD_eq_getD_getElem?, hx] at hv; rw [hv]
      have hw : Region.wanted o (yielded ops a.tmps) = (t == want) := by
        simp [Region.wanted, hg, yielded, hc, hv']
      cases htw : (t == want) with
      | true =>
        have : t = want := by simpa using htw
        subst this
        exact .inl ⟨by rw [hw, htw], _, R.setEnv (x := .v (.bool t)) ⟨hv, trivial⟩, h1.1 htw⟩
      | false =>
        have : t = !want := by cases t <;> cases want <;> simp_all
        subst this
        exact .inr ⟨by rw [hw, htw], _, R.setEnv (x := .v (.bool !want)) ⟨hv, trivial⟩, h1.2 htw⟩
theorem Oper.wp_mono {o : Oper} {a : Act} {w : World} {K K' : Act → World → Prop} {Q : Exit → Act → World → Prop} (hK : ∀ a w, K a w → K' a w) (h : o.wp P a w K Q) : o.wp P a w K' Q := by
  unfold Oper.wp at *
  generalize (execOp a.eval o).run P w = r at *
  cases r with
  | ok nx w' =>
    cases nx with
    | value v => exact hK _ _ h
    | skip => exact hK _ _ h
    | defer d => exact hK _ _ h
    | enter f args => exact Calls.mono h fun e w'' hh => by cases e with | returned v => exact hK _ _ hh | panicked c => exact hh | outgrown => exact hh
    | row r args => exact Rows.mono h fun v w'' hh => hK _ _ hh
    | _ => exact h
  | halt x w' => cases x <;> exact h
theorem ops_sound {ops : Array Oper} {Q : Exit → Act → World → Prop} : ∀ (l : List Oper) {s : St} {a : Act} {w : World}, (∀ o ∈ l, dOk n o.dst) → Rel W0 S F n s a w → opsE P H (stripL ops l) s K → (∀ s a w, Rel W0 S F n s a w → K s → Q .normal a w) → wpList P ops Q l a w
  | [], s, a, w, _, hR, h, hQ => hQ s a w hR h
  | o :: l, s, a, w, hd, ⟨L, m, R⟩, h, hQ => by
    rw [wpList]
    rcases guard_cases R h with ⟨hw, s', R', h1⟩ | ⟨hw, s', R', h1⟩
    · rw [if_pos hw]
      left
      refine Oper.wp_mono (fun a' w' hh => ?_) (op_sound (hd o (by simp)) R' h1 Q)
      obtain ⟨⟨s2, R2, h2⟩, _⟩ := hh
      exact ops_sound l (fun o ho => hd o (by simp [ho])) R2 h2 hQ
    · rw [if_neg (by rw [hw]; simp)]
      exact ops_sound l (fun o ho => hd o (by simp [ho])) ⟨L, m, R'.put (hd o (by simp)) (x := .tup []) ⟨#[], rfl, rfl⟩⟩ h1 hQ
theorem still_sound {ops : Array Oper} {Q : Act → Prop} : ∀ (l : List Oper) {s : St} {a : Act} {w : World}, (∀ o ∈ l, dOk n o.dst ∧ quietOp o.op = true) → Rel W0 S F n s a w → opsE P H (stripL ops l) s K → (∀ s a, Rel W0 S F n s a w → K s → Q a) → wpStill P ops w Q l a
  | [], s, a, w, _, hR, h, hQ => hQ s a hR h
  | o :: l, s, a, w, hd, ⟨L, m, R⟩, h, hQ => by
    rw [wpStill]
    rcases guard_cases R h with ⟨hw, s', R', h1⟩ | ⟨hw, s', R', h1⟩
    · rw [if_pos hw]
      obtain ⟨v, s2, hrun, R2, h2⟩ := quiet_sound (hd o (by simp)).2 (hd o (by simp)).1 R' h1
      unfold Oper.still
      rw [hrun w (.inr (Grows.refl w)), Oper.stillUpon_value]
      exact still_sound l (fun o ho => hd o (by simp [ho])) R2 h2 hQ
    · rw [if_neg (by rw [hw]; simp)]
      exact still_sound l (fun o ho => hd o (by simp [ho])) ⟨L, m, R'.put (hd o (by simp)).1 (x := .tup []) ⟨#[], rfl, rfl⟩⟩ h1 hQ
theorem opsE_append {ops : Array Oper} : ∀ (l1 l2 : List Oper) (K : St → Prop), (fun s => opsE P H (stripL ops (l1 ++ l2)) s K) = fun s => opsE P H (stripL ops l1) s (fun s' => opsE P H (stripL ops l2) s' K)
  | [], l2, K => rfl
  | o :: l1, l2, K => by
    have ih := opsE_append (ops := ops) l1 l2 K
    funext s
    show opsE P H (strip ops o :: stripL ops (l1 ++ l2)) s K = opsE P H (strip ops o :: stripL ops l1) s _
    have e : ∀ s, opsE P H (stripL ops (l1 ++ l2)) s K = opsE P H (stripL ops l1) s (fun s' => opsE P H (stripL ops l2) s' K) := fun s => congrFun ih s
    generalize strip ops o = so
    obtain ⟨d, op, g⟩ := so
    match g with
    | none => simp only [opsE, ih]
    | some (none, _) => rfl
    | some (some c, want) => simp only [opsE, ih, e]
theorem take_quiet {q : Op → Bool} : ∀ (l : List Oper), ∀ o ∈ l.take (l.takeWhile fun o => q o.op).length, q o.op = true
  | [], o, h => by simp at h
  | x :: l, o, h => by
    rw [List.takeWhile_cons] at h
    split at h
    · rename_i hx
      simp only [List.length_cons, List.take_succ_cons, List.mem_cons] at h
      rcases h with rfl | h
      · exact hx
      · exact take_quiet l o h
    · simp at h
end
end Go.Ev
