/- Part 7 of what the row leans on: the evaluator, words, contracts of functions; pruned by a program of ours. -/
import Derived.Test.YtcmkgoflnfchcaaWn06
import Derived.Lib.AppendZeros
import Derived.Deep.Upon
set_option linter.unusedVariables false
set_option linter.unusedSimpArgs false
namespace Go.Ev
open Go Go.RowKit
section
variable {P : Program} {H : Nat → Nat} {W0 : Bs} {S F : Nat → Prop} {n : Nat} {L : Nat → Option Id} {m : Id → Value} {s : St} {a : Act} {w : World} {K : St → Prop}
def Lands (W0 : Bs) (S F : Nat → Prop) (L : Nat → Option Id) (w : World) (id : Id) (J : List Id) (sz : Nat) (els : List (List AV)) (news : List Value) : Prop :=
  ∀ qt : Nat, ∃ ρ : Id → Id, (∀ y r, hit J y = false → ρ (y ++ r) = y ++ r) ∧ (∀ k r, ρ (id ++ k :: r) = id ++ k :: r) ∧
    ∀ (w' : World) (g : Nat) (m' : Id → Value) (σ' : Id → Option OB) (off' : Nat), Wrote w w' g → W0.ok g → (∀ p, L g = some p → p = id) →
      (∀ j v, news[j]? = some v → w'.cell? ⟨g, off' + j, none⟩ = some v) → RepEls (cx w' S F (newL L ρ g id) m' σ') (.own id) g off' qt sz els
theorem getElem?_of_lt {α : Type} {l : List α} {j : Nat} (h : j < l.length) : ∃ v, l[j]? = some v := ⟨_, List.getElem?_eq_getElem h⟩
theorem src_of {C : Cx} (hCw : C.w = w) {md : Md} {sz : Nat} {els : List (List AV)} {A : Option Addr} {c : Nat} {T e : TypeId} (hk : P.underlying T = some (.slice e))
    (h : els = [] ∨ ∃ b off q, A = some ⟨b, off, none⟩ ∧ RepEls C md b off q sz els) : ∃ news, Src P sz T (.slice A els.length c) els.length news w ∧ news.length = els.length * sz ∧
      (els = [] ∨ ∃ b off q, RepEls C md b off q sz els ∧ ∀ j v, news[j]? = some v → C.w.cell? ⟨b, off + j, none⟩ = some v) := by
  rcases h with rfl | ⟨b, off, q, rfl, hE⟩
  · refine ⟨[], ?_, by simp, .inl rfl⟩
    cases A with
    | none => exact Src.ofNil w hk c
    | some a => exact Src.ofSlice w hk a 0 c [] (by simp) (fun j u h => by simp at h) (fun u h => by simp at h)
  · obtain ⟨vs, h1, h2⟩ := hE.cells
    exact ⟨vs, Src.ofSlice w hk ⟨b, off, none⟩ els.length c vs h1 (fun j u hj => by rw [add_none, ← hCw]; exact (h2 j u hj).1) (fun u hu => by
      obtain ⟨j, hj⟩ := List.mem_iff_getElem?.1 hu
      exact one_iff.1 (h2 j u hj).2), h1, .inr ⟨b, off, q, hE, fun j v hj => (h2 j v hj).1⟩⟩
mutual
theorem rep_asrd_own {C C' : Cx} (hs : Stays C C') {o : Org} (ho : isObj o = false) {p : Id} : ∀ {c : AV} {y : Value}, Rep C true (.read o) c y → Rep C' true (.own p) (c.asrw o) y
  | .any, _, _ => trivial
  | .v u, _, h => h
  | .row e sz els, _, h => by
    have hb : o.base = o := by cases o <;> first | rfl | cases ho
    have h' : Rep C' true (.read o) (.row e sz els) _ := Rep.tr hs (hs.org o ho) (.row e sz els) _ h
    show Rep C' true (.own p) (.rd o.base e sz els) _
    rw [hb]
    exact ⟨by simp [ho], ⟨h'.1, Cx.hdr_of ho⟩, h'.2⟩
  | .rd o' e sz els, _, h => by
    have h0 := h.1
    have ho' : isObj o' = false := by simpa using h0
    have := Rep.tr (md' := .read o) hs (hs.org o ho) (.rd o' e sz els) _ h
    exact ⟨by simp [ho'], this.2⟩
  | .rp .., _, h => absurd h.1 (by simp)
  | .ref .., _, h => absurd h.1 (by simp)
  | .ptr .., _, h => absurd h.1 (by simp)
  | .bx .., _, _ => trivial
  | .agg cs, _, h => by
    obtain ⟨vs, rfl, h⟩ := h
    exact ⟨vs, rfl, repVs_asrd_own hs ho h⟩
  | .tup cs, _, h => by
    obtain ⟨vs, rfl, h⟩ := h
    exact ⟨vs, rfl, repVs_asrd_own hs ho h⟩
  | .ifc t a, _, h => by
    obtain ⟨v, rfl, h⟩ := h
    exact ⟨v, rfl, rep_asrd_own hs ho h⟩
  | .fn f cs, _, h => by
    obtain ⟨vs, rfl, h⟩ := h
    exact ⟨vs, rfl, repVs_asrd_own hs ho h⟩
theorem repVs_asrd_own {C C' : Cx} (hs : Stays C C') {o : Org} (ho : isObj o = false) {p : Id} : ∀ {cs : List AV} {vs : List Value} {q q' : Nat}, RepVs C true (.read o) q cs vs → RepVs C' true (.own p) q' (asrwL o cs) vs
  | [], _, _, _, h => h
  | c :: cs, _, _, q', h => by
    obtain ⟨y, ys, rfl, h1, h2⟩ := h
    exact ⟨y, ys, rfl, rep_asrd_own hs ho h1, repVs_asrd_own hs ho h2⟩
end
theorem lands_read (R : RelC W0 S F n L m s a w) {id : Id} {J : List Id} {o : Org} (ho : isObj o = false) {sz : Nat} {els : List (List AV)} {news : List Value} (hl : news.length = els.length * sz)
    (h : els = [] ∨ ∃ b off q, RepEls (cx w S F L m s.σ) (.read o) b off q sz els ∧ ∀ j v, news[j]? = some v → w.cell? ⟨b, off + j, none⟩ = some v) : Lands W0 S F L w id J sz (els.map (List.map (AV.asrw o))) news := fun qt => by
  refine ⟨fun p => p, fun _ _ _ => rfl, fun _ _ => rfl, fun w' g m' σ' off' hw hg0 hg hc => ?_⟩
  rcases h with rfl | ⟨b, off, q, hE, hcell⟩
  · trivial
  · refine RepEls.conv _ hE (fun j hj => ?_) (fun cs _ c _ k y hy hr => rep_asrd_own (Stays.wrote R hw hg0 _ _ _) ho hr)
    obtain ⟨v, hv⟩ := getElem?_of_lt (by rw [hl]; exact hj)
    exact (hc j v hv).trans (hcell j v hv).symm
theorem lands_flat {C : Cx} (hCw : C.w = w) {md : Md} {id : Id} {J : List Id} {sz : Nat} {els : List (List AV)} {news : List Value} (hl : news.length = els.length * sz) (hf : flatE els)
    (h : els = [] ∨ ∃ b off q, RepEls C md b off q sz els ∧ ∀ j v, news[j]? = some v → C.w.cell? ⟨b, off + j, none⟩ = some v) : Lands W0 S F L w id J sz els news := fun qt => by
  refine ⟨fun p => p, fun _ _ _ => rfl, fun _ _ => rfl, fun w' g m' σ' off' hw hg0 hg hc => ?_⟩
  rcases h with rfl | ⟨b, off, q, hE, hcell⟩
  · trivial
  · have := RepEls.conv (C' := cx w' S F (newL L (fun p => p) g id) m' σ') (md' := .own id) (b' := g) (off' := off') (q' := qt) (fun x => x) hE (fun j hj => by
      obtain ⟨v, hv⟩ := getElem?_of_lt (l := news) (by rw [hl]; exact hj)
      exact (hc j v hv).trans (hcell j v hv).symm) (fun cs hcs c hc k y hy hr => by
      obtain ⟨u, rfl⟩ := hf cs hcs c hc
      exact hr)
    simpa using this
def shiftP (i : Id) (qs : Nat) (t : Id) (qt : Nat) (p : Id) : Id :=
  if i.isPrefixOf p then match p.drop i.length with | [] => p | k :: r => t ++ (qt + (k - qs)) :: r else p
theorem lands_moved (R : RelC W0 S F n L m s a w) {id i : Id} {J : List Id} (hi : i ∈ J) (hc : cmp i id = false) {sz : Nat} {els : List (List AV)} {news : List Value} (hl : news.length = els.length * sz)
    (h : els = [] ∨ ∃ b off q, RepEls (cx w S F L m s.σ) (.own i) b off q sz els ∧ ∀ j v, news[j]? = some v → w.cell? ⟨b, off + j, none⟩ = some v) : Lands W0 S F L w id J sz els news := fun qt => by
  have hout : ∀ q y r, cmp i y = false → shiftP i q id qt (y ++ r) = y ++ r := fun q y r hy => by
    have h1 : i.isPrefixOf (y ++ r) = false := by
      cases hp : i.isPrefixOf (y ++ r) with
      | false => rfl
      | true =>
        obtain ⟨z, hz⟩ := List.isPrefixOf_iff_prefix.1 hp
        have := cmp_of_append hz
        rw [hy] at this; cases this
    rw [shiftP, h1]; rfl
  rcases h with rfl | ⟨b, off, q, hE, hcell⟩
  · exact ⟨fun p => p, fun _ _ _ => rfl, fun _ _ => rfl, fun _ _ _ _ _ _ _ _ _ => trivial⟩
  · refine ⟨shiftP i q id qt, fun y r hy => hout q y r (hit_mem hi hy), fun k r => hout q id (k :: r) hc, fun w' g m' σ' off' hw hg0 hg hcc => ?_⟩
    have := RepEls.conv (C' := cx w' S F (newL L (shiftP i q id qt) g id) m' σ') (md' := .own id) (b' := g) (off' := off') (q' := qt) (fun x => x) hE (fun j hj => by
      obtain ⟨v, hv⟩ := getElem?_of_lt (l := news) (by rw [hl]; exact hj)
      exact (hcc j v hv).trans (hcell j v hv).symm) (fun cs hcs c hc' k y hy hr => by
      refine Rep.tr (Stays.wrote R hw hg0 _ _ _) (show Tr _ _ (.own (i ++ [q + k])) (.own (id ++ [qt + k])) from tr_moved R hw hg (fun r => ?_) (fun r e => ?_)) _ _ hr
      · rw [shiftP, List.append_assoc, if_pos (List.isPrefixOf_iff_prefix.2 (List.prefix_append _ _))]
        simp [show q + k - q = k by omega]
      · have : cmp i id = true := cmp_of_append (p := i) (r := [q + k] ++ r) (q := id) (r' := []) (by rw [← List.append_assoc, ← e]; simp)
        rw [hc] at this; cases this)
    simpa using this
theorem e_append {o : Oper} {x y : Operand} {T T' e : TypeId} (ho : o.op = .call ⟨.builtin .append, ⟨[x, y]⟩, ⟨[T, T']⟩⟩) (hd : dOk n o.dst) (R : RelC W0 S F n L m s a w) {d : Nat} (hdst : o.dst = some d) {sz by_ : Nat} (ht : elTy P T = some (e, sz, by_))
    {z : List AV} (hz : zeroC P e = some z) {id : Id} {J : List Id} (hid : id ∈ J) {xs els : List (List AV)} (hbase : Rep (cx w S F L m s.σ) true (.own id) (.row e sz xs) (a.eval x)) {nn : Nat} {news : List Value}
    (hsrc : Src P sz T' (a.eval y) nn news w) (hln : els.length = nn) (hland : Lands W0 S F L w id J sz els news) (hby : (xs.length + nn) * by_ ≤ 140737488355328) (hpos : 0 < by_)
    (hK : K (((s.chg J J).obj id (.row e sz (xs ++ els))).put (some d) (.ref id))) : ES false P W0 S F n K o a w := by
  obtain ⟨i, hu, hi, hsz, hbb⟩ := elTy_run ht
  obtain ⟨i', v, hi', hv, hvsz, _, _⟩ := zeroC_run hz
  rw [hi] at hi'
  obtain rfl := Option.some.inj hi'
  subst hsz; subst hbb
  obtain ⟨A, c, hA, hR⟩ := hbase
  have hbig : xs.length + nn ≤ 140737488355328 := by
    have : (xs.length + nn) * 1 ≤ (xs.length + nn) * i.bytes := Nat.mul_le_mul_left _ hpos
    omega
  have e0 : (execOp a.eval o).run P w = ((Builtin.append_ #[T, T'] o.type #[a.eval x, a.eval y]).run P w).andThen fun v w => .ok (.value v) w := by
    simp [execOp, ho, resolve, invoke, builtin]
  -- what is left to say, once a block is written
  have fin : ∀ (w' : World) (g : Nat) (hdr : Value) (ρ : Id → Id), (Builtin.append_ #[T, T'] o.type #[a.eval x, a.eval y]).run P w = .ok hdr w' → Wrote w w' g → W0.ok g → (∀ p, L g = some p → p = id) → (∀ y r, hit J y = false → ρ (y ++ r) = y ++ r) → one hdr →
      (∀ σ', Stays (cx w S F L m s.σ) (cx w' S F (newL L ρ g id) (newM m id hdr) σ') → RepOb (cx w' S F (newL L ρ g id) (newM m id hdr) σ') id (.row e i.size (xs ++ els))) → ES false P W0 S F n K o a w := fun w' g hdr ρ hrun hw hg0 hg hρ h1 hob => by
    have kp := keep_wrote R (I := J) (J := J) (id := id) (ob := .row e i.size (xs ++ els)) hw (fun _ h => h) hid hρ hg hg0 (hdr := hdr) (fun y h1 _ h2 => by rw [h1] at h2; cases h2)
    have R' := R.wrote hw hid hg0 kp (hob _ kp.st)
    have e1 : ((s.chg J J).obj id (.row e i.size (xs ++ els))).σ id = some (.row e i.size (xs ++ els)) := by show updS _ _ _ _ = _; simp [updS, sel]
    refine ⟨hdr, w', _, .inl (by rw [e0, hrun]; rfl), ⟨_, _, R'.put hd (x := .ref id) ⟨rfl, h1, RelC.live e1, (if_pos rfl).symm⟩⟩, by rw [hdst]; exact hK, fun h => by cases h⟩
  have old : ∀ (w' : World) (g g' off off' q : Nat) (m' : Id → Value) (σ' : Id → Option OB) (ρ : Id → Id), Wrote w w' g' → W0.ok g' → (∀ p, L g' = some p → p = id) → (∀ k r, ρ (id ++ k :: r) = id ++ k :: r) → RepEls (cx w S F L m s.σ) (.own id) g off q i.size xs →
      (∀ j, j < xs.length * i.size → w'.cell? ⟨g', off' + j, none⟩ = w.cell? ⟨g, off + j, none⟩) → RepEls (cx w' S F (newL L ρ g' id) m' σ') (.own id) g' off' q i.size xs := fun w' g g' off off' q m' σ' ρ hw hg0 hg hρ hE hc => by
    have := RepEls.conv (C' := cx w' S F (newL L ρ g' id) m' σ') (md' := .own id) (b' := g') (off' := off') (q' := q) (fun x => x) hE hc (fun cs _ c _ k y _ hr =>
      Rep.tr (Stays.wrote R hw hg0 _ _ _) (show Tr _ _ (.own (id ++ [q + k])) (.own (id ++ [q + k])) from tr_moved R hw hg (fun r => by rw [List.append_assoc]; exact hρ _ _) (fun r e => by have := congrArg List.length e; simp at this)) _ _ hr)
    simpa using this
  by_cases hroom : xs.length + nn ≤ c
  · rcases hR with ⟨rfl, rfl, rfl⟩ | ⟨g, off, arr, fr, q, rfl, hL, hh, h8, h9, h10, h11, hE⟩
    · -- nothing
      have hn0 : nn = 0 := by simp at hroom; exact hroom
      subst hn0
      have hels : els = [] := List.eq_nil_of_length_eq_zero hln
      subst hels
      have hnews : news = [] := List.eq_nil_of_length_eq_zero (by rw [hsrc.newsLen]; simp)
      subst hnews
      have hrun := run_append_nothing (P := P) w T T' o.type e i hu hi none 0 0 (Nat.le_refl _) (a.eval y) hsrc
      have hA' : a.eval x = .slice none 0 0 := hA
      have kp : Keep (cx w S F L m s.σ) (cx w S F L (newM m id (.slice none 0 0)) (updS (killS s.σ J J) id (.row e i.size ([] ++ [])))) J J := by
        refine ⟨⟨fun _ h => ⟨h, rfl⟩, fun _ h => ⟨h, rfl⟩⟩, fun _ h => h, fun y hy hl => ?_, fun y hy hl b q hb => ⟨hb, rfl⟩⟩
        have hne : y ≠ id := fun e => by subst e; rw [hit_self hid] at hy; cases hy
        refine ⟨?_, if_neg hne⟩
        show (updS _ _ _ y).isSome = true
        have e1 : (y == id) = false := by simpa using hne
        unfold updS
        rw [e1]
        exact killS_isSome.2 ⟨hy, hl⟩
      have hob : RepOb (cx w S F L (newM m id (.slice none 0 0)) (updS (killS s.σ J J) id (.row e i.size ([] ++ [])))) id (.row e i.size ([] ++ [])) :=
        ⟨none, 0, if_pos rfl, .inl ⟨rfl, rfl, rfl⟩⟩
      have R' := R.upd1 hid kp hob R.lab R.below
      have e1 : ((s.chg J J).obj id (.row e i.size ([] ++ []))).σ id = some (.row e i.size ([] ++ [])) := by show updS _ _ _ _ = _; simp [updS, sel]
      refine ⟨.slice none 0 0, w, _, .inl (by rw [e0, hA', hrun]; rfl), ⟨_, _, R'.put hd (x := .ref id) ⟨rfl, trivial, RelC.live e1, (if_pos rfl).symm⟩⟩, by rw [hdst]; exact hK, fun h => by cases h⟩
    · have hL' : L g = some id := hL
      have hh' : w.heap[g]? = some (.cells arr e fr) := hh
      have hgid : ∀ p, L g = some p → p = id := fun p hp => by rw [hL'] at hp; exact (Option.some.inj hp).symm
      have hlim : xs.length * i.size + news.length ≤ c * i.size := by
        rw [hsrc.newsLen, ← Nat.add_mul]; exact Nat.mul_le_mul_right _ hroom
      have hex : ∀ j, j < news.length → (w.cell? ⟨g, off + xs.length * i.size + j, none⟩).isSome = true := fun j hj => cell_lt hh' (by omega)
      have hrun := run_append_room_src (P := P) w T T' o.type e i hu hi g off xs.length c (a.eval y) nn news hsrc hroom hex
        (fun j hj => not_frozen hh' (by have := h10.no (i := xs.length * i.size + j) (by omega); rwa [← Nat.add_assoc] at this))
      have hw := wrote_setCells (R.lab g id hL').2 news (off + xs.length * i.size)
      have hg0 := (R.lab g id hL').1
      obtain ⟨ρ, hρ, hρid, hland⟩ := hland (q + xs.length * i.size)
      obtain ⟨arr', g1, g2⟩ := setCells_same g news (off + xs.length * i.size) w arr e fr hh'
      refine fin _ g (.slice (some ⟨g, off, none⟩) (xs.length + nn) c) ρ (by rw [hA]; exact hrun) hw hg0 hgid hρ trivial (fun σ' hst => ?_)
      refine ⟨_, c, (if_pos rfl).trans (by rw [List.length_append, hln]), .inr ⟨g, off, arr', fr, q, rfl, by show newL L _ _ _ _ = _; simp [newL], g1, by rw [List.length_append, hln]; exact hroom, by omega, h10, by rw [List.length_append, hln, BIG_eq]; exact hbig, RepEls.append ?_ ?_⟩⟩
      · refine old _ g g off off q _ _ ρ hw hg0 hgid hρid hE (fun j hj => ?_)
        exact World.cell?_setCells_out g _ _ w _ (fun _ _ => by show off + j < off + xs.length * i.size ∨ _; omega)
      · refine hland _ g _ _ _ hw hg0 hgid (fun j u hj => ?_)
        have hjl := (List.getElem?_eq_some_iff.1 hj).1
        exact (World.cell?_setCells_in g news (off + xs.length * i.size) w hex j hjl).trans (by rw [← hj]; exact (List.getElem?_eq_getElem hjl).symm)
  · -- a new block
    have hgrow : c < xs.length + nn := by omega
    have key : ∃ olds : List Value, olds.length = xs.length * i.size ∧ (Builtin.firstCells i.size xs.length (.slice A xs.length c)).run P w.drew = .ok olds.toArray w.drew ∧
        (xs = [] ∨ ∃ g off q, RepEls (cx w S F L m s.σ) (.own id) g off q i.size xs ∧ ∀ j u, olds[j]? = some u → w.cell? ⟨g, off + j, none⟩ = some u) := by
      rcases hR with ⟨rfl, rfl, rfl⟩ | ⟨g, off, arr, fr, q, rfl, hL, hh, h8, h9, h10, h11, hE⟩
      · exact ⟨[], by simp, run_firstCells_none w.drew _ _ _ _, .inl rfl⟩
      · obtain ⟨vs, h1, h2⟩ := hE.cells
        exact ⟨vs, h1, run_firstCells_some w.drew i.size xs.length ⟨g, off, none⟩ xs.length c vs h1 (fun j u hj => by rw [add_none]; exact (h2 j u hj).1), .inr ⟨g, off, q, hE, fun j u hj => (h2 j u hj).1⟩⟩
    obtain ⟨olds, hol, hold, hocells⟩ := key
    have hrun := run_append_grow_src (P := P) w T T' o.type e i v hu hi hv A xs.length c olds hold (a.eval y) nn news hsrc hgrow (by omega) (growslice_fits hgrow hby)
    have hw := wrote_drew_alloc w (.cells ((olds ++ news).toArray ++ Builtin.zeroCells v.cells (grownCap w (xs.length + nn) c e - (xs.length + nn))) e)
    have hgid : ∀ p, L w.heap.size = some p → p = id := fun p hp => absurd (R.lab _ p hp).2 (by omega)
    have hcap := grownCap_ge w (xs.length + nn) c e
    have hheap : (w.drew.alloc (.cells ((olds ++ news).toArray ++ Builtin.zeroCells v.cells (grownCap w (xs.length + nn) c e - (xs.length + nn))) e)).heap[w.heap.size]? = some (.cells ((olds ++ news).toArray ++ Builtin.zeroCells v.cells (grownCap w (xs.length + nn) c e - (xs.length + nn))) e (0, 0)) := alloc_heap w.drew _
    have hcell : ∀ j u, (olds ++ news)[j]? = some u → (w.drew.alloc (.cells ((olds ++ news).toArray ++ Builtin.zeroCells v.cells (grownCap w (xs.length + nn) c e - (xs.length + nn))) e)).cell? ⟨w.heap.size, j, none⟩ = some u := fun j u hj => by
      have hjl := (List.getElem?_eq_some_iff.1 hj).1
      unfold World.cell?
      rw [hheap]
      simp only [Option.isSome_none, Bool.false_eq_true, if_false]
      rw [Array.getElem?_append_left (by simpa using hjl)]
      simpa using hj
    have hnl := hsrc.newsLen
    have hnewc : ∀ (off' : Nat), off' = olds.length → ∀ j u, news[j]? = some u → (w.drew.alloc (.cells ((olds ++ news).toArray ++ Builtin.zeroCells v.cells (grownCap w (xs.length + nn) c e - (xs.length + nn))) e)).cell? ⟨w.heap.size, off' + j, none⟩ = some u := fun off' ho j u hj => by
      subst ho
      exact hcell _ u (by rw [List.getElem?_append_right (by omega)]; simpa using hj)
    have hsize : ((olds ++ news).toArray ++ Builtin.zeroCells v.cells (grownCap w (xs.length + nn) c e - (xs.length + nn))).size = grownCap w (xs.length + nn) c e * i.size := by
      rw [Array.size_append, size_zeroCells, hvsz]
      simp only [List.size_toArray, List.length_append, hol, hnl]
      rw [← Nat.add_mul, ← Nat.add_mul]
      congr 1
      omega
    have done : ∀ q, (xs = [] ∨ ∃ g off, RepEls (cx w S F L m s.σ) (.own id) g off q i.size xs ∧ ∀ j u, olds[j]? = some u → w.cell? ⟨g, off + j, none⟩ = some u) → ES false P W0 S F n K o a w := fun q hx => by
      obtain ⟨ρ, hρ, hρid, hland⟩ := hland (q + xs.length * i.size)
      refine fin _ w.heap.size (.slice (some ⟨w.heap.size, 0, none⟩) (xs.length + nn) (grownCap w (xs.length + nn) c e)) ρ (by rw [hA]; exact hrun) hw (.inl R.below.size) hgid hρ trivial (fun σ' hst => ?_)
      refine ⟨_, grownCap w (xs.length + nn) c e, (if_pos rfl).trans (by rw [List.length_append, hln]), .inr ⟨w.heap.size, 0, _, (0, 0), q, rfl, by show newL L _ _ _ _ = _; simp [newL], hheap, by rw [List.length_append, hln]; exact hcap, by rw [hsize]; omega, fun _ _ => .inr rfl, by rw [List.length_append, hln, BIG_eq]; exact hbig, RepEls.append ?_ ?_⟩⟩
      · rcases hx with rfl | ⟨g, off, hE, hoc⟩
        · trivial
        · refine old _ g w.heap.size off 0 q _ _ ρ hw (.inl R.below.size) hgid hρid hE (fun j hj => ?_)
          obtain ⟨u, hu'⟩ := getElem?_of_lt (l := olds) (by rw [hol]; exact hj)
          rw [Nat.zero_add]
          exact (hcell j u (by rw [List.getElem?_append_left (by rw [hol]; exact hj)]; exact hu')).trans (hoc j u hu').symm
      · exact hland _ w.heap.size _ _ _ hw (.inl R.below.size) hgid (fun j u hj => hnewc _ (by omega) j u hj)
    rcases hocells with rfl | ⟨g, off, q, hE, hoc⟩
    · exact done 0 (.inl rfl)
    · exact done q (.inr ⟨g, off, hE, hoc⟩)
theorem src_shows (R : RelC W0 S F n L m s a w) {o : Org} {sz : Nat} {els : List (List AV)} {x : Value} (h : Shows (cx w S F L m s.σ) o sz els x) {T e : TypeId} (hk : P.underlying T = some (.slice e)) :
    ∃ news, Src P sz T x els.length news w ∧ news.length = els.length * sz ∧ (els = [] ∨ ∃ b off q, RepEls (cx w S F L m s.σ) (.read o) b off q sz els ∧ ∀ j v, news[j]? = some v → w.cell? ⟨b, off + j, none⟩ = some v) := by
  obtain ⟨_, A, c, rfl, _, _, h⟩ := h
  exact src_of (C := cx w S F L m s.σ) rfl hk (h.imp id fun ⟨b, off, h1, _, h2⟩ => ⟨b, off, 0, h1, h2⟩)
theorem own_src (R : RelC W0 S F n L m s a w) {i : Id} {e sz : Nat} {els : List (List AV)} (h : s.σ i = some (.row e sz els)) {T e' : TypeId} (hk : P.underlying T = some (.slice e')) :
    ∃ news, Src P sz T (m i) els.length news w ∧ news.length = els.length * sz ∧ (els = [] ∨ ∃ b off q, RepEls (cx w S F L m s.σ) (.own i) b off q sz els ∧ ∀ j v, news[j]? = some v → w.cell? ⟨b, off + j, none⟩ = some v) := by
  obtain ⟨A, c, hm, h⟩ := R.obj i _ h
  rw [show m i = _ from hm]
  refine src_of (C := cx w S F L m s.σ) rfl hk ?_
  rcases h with h | ⟨g, off, arr, fr, q, h1, h2, h3, h4, h5, h6, h7, h8⟩
  · exact .inl h.1
  · exact .inr ⟨g, off, q, h1, h8⟩
theorem base_rep (R : RelC W0 S F n L m s a w) {x : Operand} {d e sz : Nat} {id : Id} {xs : List (List AV)} (h : appBase s d e sz (s.ev x) = some (id, xs)) : Rep (cx w S F L m s.σ) true (.own id) (.row e sz xs) (a.eval x) := by
  have hx := R.ev x
  generalize hav : s.ev x = av at h hx
  cases av with
  | ref i =>
    simp only [appBase] at h
    split at h
    · rename_i e' sz' xs' hob
      obtain ⟨h1, h2⟩ := sel_eq_some h
      simp only [Bool.and_eq_true, beq_iff_eq] at h1
      obtain ⟨rfl, rfl⟩ := h1
      simp only [Prod.mk.injEq] at h2
      obtain ⟨rfl, rfl⟩ := h2
      rw [show a.eval x = m i from hx.2.2.2]
      exact R.obj i _ hob
    · cases h
  | v u =>
    simp only [appBase] at h
    obtain ⟨y, hy, h⟩ := bindO_eq h
    simp only [Option.some.injEq, Prod.mk.injEq] at h
    obtain ⟨rfl, rfl⟩ := h
    unfold nilV at hy
    split at hy
    · rw [hx.1]
      exact ⟨none, 0, rfl, .inl ⟨rfl, rfl, rfl⟩⟩
    · cases hy
  | _ => cases h
theorem zeroCells_app (z : Array Value) (k l : Nat) : Builtin.zeroCells z k ++ Builtin.zeroCells z l = madeCells z ((k + l) * z.size) := by
  have e : ∀ n, Builtin.zeroCells z n = madeCells z (n * z.size) := fun n => rfl
  rw [e, e]
  apply Array.ext'
  simp only [madeCells, Array.toList_append, Array.toList_map, Array.toList_range]
  rw [Nat.add_mul, List.range_add, List.map_append]
  congr 1
  rw [List.map_map]
  refine List.map_congr_left fun i hi => ?_
  show z[i % z.size]! = z[(k * z.size + i) % z.size]!
  rw [Nat.mul_comm, Nat.mul_add_mod]
theorem e_appZ {o : Oper} {x y : Operand} {T T' : TypeId} (ho : o.op = .call ⟨.builtin .append, ⟨[x, y]⟩, ⟨[T, T']⟩⟩) (hd : dOk n o.dst) (R : RelC W0 S F n L m s a w) {q : IntKind} {c : Int} (hv : s.ev y = .v (.int q c))
    (h : onSome (intTy P T') fun _ => onSome (elTy P T) fun t => onSome (zeroC P t.1) fun z => onSome o.dst fun d => onNil (s.ev x) (ask (0 < c ∧ c * t.2.2 ≤ 140737488355328 ∧ 0 < t.2.2 ∧ 0 < t.2.1) (K (s.new d (.row t.1 t.2.1 (List.replicate c.toNat (nilL (cty P t.1) z))) (.ref [d]))))) : ES false P W0 S F n K o a w := by
  obtain ⟨_, hT', h1⟩ := onSome.elim h
  obtain ⟨⟨e, sz, by_⟩, ht, h1⟩ := onSome.elim h1
  obtain ⟨z, hz, h1⟩ := onSome.elim h1
  obtain ⟨d, hdst, h1⟩ := onSome.elim h1
  obtain ⟨hnil, ⟨h0, hby, hpos, hps⟩, h2⟩ := onNil.elim h1
  have hx := R.ev x
  have hy := R.ev y
  rw [hnil] at hx
  rw [hv] at hy
  obtain ⟨i, v, hi, hvz, hsz, rfl, hone⟩ := zeroC_run hz
  obtain ⟨i', hu, hi', rfl, rfl⟩ := elTy_run ht
  simp only at hi
  rw [hi] at hi'
  obtain rfl := Option.some.inj hi'
  have hkn : ∃ kn, P.underlying T' = some (.int kn) := by
    unfold intTy at hT'
    split at hT'
    · exact ⟨_, by assumption⟩
    · cases hT'
  obtain ⟨kn, htn⟩ := hkn
  obtain ⟨k, rfl⟩ : ∃ k : Nat, c = k := ⟨c.toNat, by omega⟩
  have hk0 : 0 < k := by omega
  have hbk : k * i.bytes ≤ 140737488355328 := by
    have : ((k * i.bytes : Nat) : Int) ≤ 140737488355328 := by rw [Int.natCast_mul]; exact hby
    omega
  have hk1 : k ≤ 140737488355328 := by
    have : k * 1 ≤ k * i.bytes := Nat.mul_le_mul_left _ hpos
    omega
  have hrun := Go.Lib.run_append_nil_zeros (P := P) w T T' o.type e i v q kn hu htn hi hvz k hk0 hps (by omega) (by omega)
  rw [zeroCells_app, hsz] at hrun
  have hcap := grownCap_ge w k 0 e
  have hG : k + (grownCap w k 0 e - k) = grownCap w k 0 e := by omega
  rw [hG] at hrun
  have hw := wrote_drew_alloc w (.cells (madeCells v.cells (grownCap w k 0 e * i.size)) e)
  have e0 : (execOp a.eval o).run P w = ((Builtin.append_ #[T, T'] o.type #[a.eval x, a.eval y]).run P w).andThen fun v w => .ok (.value v) w := by
    simp [execOp, ho, resolve, invoke, builtin]
  have key : ES true P W0 S F n K o a w := by
    refine e_new R hdst hd (I := []) (ob := .row e i.size (List.replicate k (nilL (cty P e) (v.cells.toList.map .v)))) (ρ := fun p => p) hw (fun _ _ _ => rfl) (hdr := .slice (some ⟨w.heap.size, 0, none⟩) k (grownCap w k 0 e)) ?_ (fun σ' kp hσ => ?_) (.inl ⟨rfl, trivial⟩) (by rw [Int.toNat_natCast] at h2; exact h2)
    · rw [e0, hx.1, hy.1, hrun]; rfl
    · refine ⟨some ⟨w.heap.size, 0, none⟩, grownCap w k 0 e, by rw [List.length_replicate]; exact if_pos rfl, .inr ⟨w.heap.size, 0, madeCells v.cells (grownCap w k 0 e * i.size), (0, 0), 0, rfl, by show newL L _ _ _ _ = _; simp [newL], alloc_heap w.drew _, by rw [List.length_replicate]; omega, by rw [size_madeCells]; omega, fun _ _ => .inr rfl, by rw [List.length_replicate, BIG_eq]; omega, RepEls.of fun i' cs hcs => ?_⟩⟩
      obtain ⟨hi1, rfl⟩ := List.getElem?_eq_some_iff.1 hcs
      rw [List.length_replicate] at hi1
      rw [List.getElem_replicate]
      refine ⟨by rw [nilL_length]; simpa using hsz, RepCs.of fun j c' hj => ?_⟩
      obtain ⟨ty, u, h3, rfl⟩ := nilL_at hj
      rw [List.getElem?_map] at h3
      obtain ⟨u', hu', rfl⟩ := Option.map_eq_some_iff.1 h3
      have hjl : j < i.size := by
        have := (List.getElem?_eq_some_iff.1 hu').1
        simp at this; omega
      refine ⟨u', ?_, hone u' (List.mem_of_getElem? hu'), rep_nilC (rep_v (hone u' (List.mem_of_getElem? hu'))) ty⟩
      show (w.drew.alloc _).cell? _ = _
      unfold World.cell?
      rw [show (w.drew.alloc (.cells (madeCells v.cells (grownCap w k 0 e * i.size)) e)).heap[w.heap.size]? = _ from alloc_heap w.drew _]
      have hlt : i' * i.size + j < grownCap w k 0 e * i.size := by
        have : (i' + 1) * i.size ≤ grownCap w k 0 e * i.size := Nat.mul_le_mul_right _ (by omega)
        rw [Nat.add_mul] at this
        omega
      have hmod : (i' * i.size + j) % v.cells.size = j := by rw [hsz, Nat.add_comm, Nat.add_mul_mod_self_right, Nat.mod_eq_of_lt hjl]
      have hget : v.cells[j]! = u' := by
        have : v.cells[j]? = some u' := by simpa using hu'
        simp [getElem!_def, this]
      simp [madeCells, hlt, hmod, hget]
  obtain ⟨v', w', s', h1, h2, h3, _⟩ := key
  exact ⟨v', w', s', h1, h2, h3, fun h => by cases h⟩
theorem e_appendOp {o : Oper} {x y : Operand} {T T' : TypeId} (ho : o.op = .call ⟨.builtin .append, ⟨[x, y]⟩, ⟨[T, T']⟩⟩) (hd : dOk n o.dst) (R : RelC W0 S F n L m s a w) (h : opE P H o.dst (.call ⟨.builtin .append, ⟨[x, y]⟩, ⟨[T, T']⟩⟩) s K) : ES false P W0 S F n K o a w := by
  rcases onZ.elim (show onZ _ _ _ from h) with ⟨q, c, hv, h1⟩ | h
  · exact e_appZ ho hd R hv h1
  obtain ⟨d, hdst, h1⟩ := onSome.elim (show onSome _ _ from h)
  obtain ⟨t', ht', h1⟩ := onSome.elim h1
  obtain ⟨⟨e, sz, by_⟩, ht, h1⟩ := onSome.elim h1
  obtain ⟨z, hz, h1⟩ := onSome.elim h1
  obtain ⟨⟨r, els⟩, hy, h1⟩ := onSome.elim h1
  obtain ⟨⟨id, xs⟩, hx, ⟨hby, hpos⟩, h1⟩ := onSome.elim h1
  obtain ⟨i', hk, _⟩ := elTy_run (P := P) (T := T') (e := t'.1) (sz := t'.2.1) (by_ := t'.2.2) ht'
  have hrow := base_rep R hx
  have hyr := R.ev y
  rcases onRef.elim h1 with ⟨i, hv, h2⟩ | ⟨b, hv, h2⟩ | h2
  · -- an object of the call's own
    rw [hv] at hy hyr
    simp only [St.sl] at hy
    unfold rowOf at hy
    split at hy
    · rename_i e2 sz2 els2 hob
      obtain ⟨g1, g2⟩ := sel_eq_some hy
      simp only [Prod.mk.injEq] at g2
      obtain ⟨rfl, rfl⟩ := g2
      obtain rfl : sz2 = sz := by simpa using g1
      obtain ⟨news, hsrc, hln, hcells⟩ := own_src R hob hk
      rw [← show a.eval y = m i from hyr.2.2.2] at hsrc
      cases hH : (H d == 2) with
      | true =>
        rw [hH] at h2
        obtain ⟨⟨hf, hne⟩, h2⟩ := h2
        exact e_append ho hd R hdst ht hz (J := [id]) (by simp) hrow hsrc rfl (lands_flat (C := cx w S F L m s.σ) rfl hln hf hcells) hby hpos h2
      | false =>
        rw [hH] at h2
        obtain ⟨hne, h2⟩ := h2
        exact e_append ho hd R hdst ht hz (J := [id, i]) (by simp) hrow hsrc rfl (lands_moved R (by simp) (hit_mem (I := [i]) (by simp) hne) hln hcells) hby hpos h2
    · cases hy
  · exact h2.elim
  · have hsh := R.sl hy hyr
    obtain ⟨news, hsrc, hln, hcells⟩ := src_shows R hsh hk
    cases ho' : isObj r with
    | true =>
      simp only [ho'] at h2
      obtain ⟨⟨hf, hne⟩, h2⟩ := h2
      exact e_append ho hd R hdst ht hz (J := [id]) (by simp) hrow hsrc rfl (lands_flat (C := cx w S F L m s.σ) rfl hln hf hcells) hby hpos h2
    | false =>
      simp only [ho'] at h2
      exact e_append ho hd R hdst ht hz (J := [id]) (by simp) hrow hsrc (by simp) (lands_read R ho' hln hcells) hby hpos h2
def mvEls (p : Id) : Nat → List (List AV) → List (Id × Id)
  | _, [] => []
  | q, e :: es => mvCs p q e ++ mvEls p (q + e.length) es
theorem clE_mv {k : Nat} {ty : List (Option (Nat × Nat))} : ∀ {els els' : List (List AV)} {I : List Id}, s.clE k ty els = some (els', I) → ∀ (p : Id) (q : Nat), (mvEls p q els).map (·.1) = I
  | [], els', I, h, p, q => by simp [St.clE] at h; simp [mvEls, h.2]
  | e :: es, els', I, h, p, q => by
    simp only [St.clE] at h
    cases hl : (e.length == k) <;> rw [hl] at h
    · cases h
    · obtain ⟨x, hx, h⟩ := bindO_eq (show bindO _ _ = _ from h)
      obtain ⟨y, hy, h⟩ := bindO_eq h
      simp only [Option.some.injEq, Prod.mk.injEq] at h
      rw [mvEls, List.map_append, clL_mv (show s.clL e = some (x.1, x.2) from hx), clE_mv (show s.clE k ty es = some (y.1, y.2) from hy)]
      exact h.2
theorem clE_sound (R : RelC W0 S F n L m s a w) {C' : Cx} (hs : Stays (cx w S F L m s.σ) C') {p : Id} {g k : Nat} {ty : List (Option (Nat × Nat))} : ∀ {els els' : List (List AV)} {I : List Id}, s.clE k ty els = some (els', I) → ∀ {vs : List Value} {off q : Nat},
    vs.length = els.length → (∀ (i : Nat) e, els[i]? = some e → ∃ v : Value, vs[i]? = some v ∧ RepVs (cx w S F L m s.σ) false (.read .ent) 0 e v.cells.toList) →
    (∀ x ∈ mvEls p q els, Tr (cx w S F L m s.σ) C' (.own x.1) (.own x.2)) → (∀ (i : Nat) v, vs[i]? = some v → ∀ (j : Nat) u, v.cells.toList[j]? = some u → C'.w.cell? ⟨g, off + i * k + j, none⟩ = some u) →
    els'.length = els.length ∧ RepEls C' (.own p) g off q k els'
  | [], els', I, h, vs, off, q, _, _, _, _ => by
    simp [St.clE] at h
    rw [h.1]
    exact ⟨rfl, trivial⟩
  | e :: es, els', I, h, vs, off, q, hl, hr, ht, hc => by
    simp only [St.clE] at h
    cases hlen : (e.length == k) <;> rw [hlen] at h
    · cases h
    · obtain ⟨x, hx, h⟩ := bindO_eq (show bindO _ _ = _ from h)
      obtain ⟨y, hy, h⟩ := bindO_eq h
      simp only [Option.some.injEq, Prod.mk.injEq] at h
      have hlen : e.length = k := by simpa using hlen
      cases vs with
      | nil => simp at hl
      | cons v vs =>
        obtain ⟨v', hv', hrv⟩ := hr 0 e (by simp)
        obtain rfl : v = v' := by simpa using hv'
        obtain ⟨g1, g2, g3, g4⟩ := clL_sound (p := p) R hs (show s.clL e = some (x.1, x.2) from hx) (q := q) hrv (fun z hz => ht z (by simp [mvEls, hz]))
        obtain ⟨g5, g6⟩ := clE_sound (p := p) (g := g) (k := k) (ty := ty) R hs (show s.clE k ty es = some (y.1, y.2) from hy) (vs := vs) (off := off + k) (q := q + k) (by simpa using hl) (fun i e' he' => by
            have := hr (i + 1) e' (by simpa using he')
            simpa using this) (fun z hz => ht z (by rw [mvEls, hlen]; simp [hz])) (fun i u hu j z hz => by
            have := hc (i + 1) u (by simpa using hu) j z hz
            rw [show off + (i + 1) * k + j = off + k + i * k + j by rw [Nat.add_mul]; omega] at this
            exact this)
        rw [← h.1]
        refine ⟨by simp [g5], by rw [nilL_length, g1, hlen], RepCs.of fun j c hj => ?_, g6⟩
        obtain ⟨t, u, h3, rfl⟩ := nilL_at hj
        obtain ⟨z, h4, h5⟩ := g4 j u h3
        refine ⟨z, ?_, g3 z (List.mem_of_getElem? h4), rep_nilC h5 t⟩
        have := hc 0 v (by simp) j z h4
        simpa using this
theorem partsOf_spec : ∀ {l : List (Nat × Operand)} {i : Nat} {els : List (List AV)}, partsOf s i l = some els → els.length = l.length ∧ (∀ (j : Nat) e, els[j]? = some e → ∃ x : Nat × Operand, l[j]? = some x ∧ e = (s.ev x.2).cells) ∧ l.map (fun x : Nat × Operand => (x.1, a.eval x.2)) = ((l.map fun x : Nat × Operand => a.eval x.2).zipIdx i).map fun x => (x.2, x.1)
  | [], i, els, h => by simp [partsOf] at h; subst h; simp
  | x :: l, i, els, h => by
    simp only [partsOf] at h
    cases hx : (x.1 == i) <;> rw [hx] at h
    · cases h
    · obtain ⟨r, hr, h⟩ := bindO_eq (show bindO _ _ = _ from h)
      obtain rfl := Option.some.inj h
      obtain ⟨h1, h2, h3⟩ := partsOf_spec hr
      have hx : x.1 = i := by simpa using hx
      refine ⟨by simp [h1], fun j e hj => ?_, by simp [h3, hx]⟩
      cases j with
      | zero => exact ⟨x, by simp, by simpa using hj.symm⟩
      | succ j =>
        obtain ⟨z, h4, h5⟩ := h2 j e (by simpa using hj)
        exact ⟨z, by simpa using h4, h5⟩
theorem okCell_clE {k : Nat} {ty : List (Option (Nat × Nat))} : ∀ {els : List (List AV)} {x : List (List AV) × List Id}, s.clE k ty els = some x → ∀ e ∈ els, e.length = k ∧ ∀ c ∈ e, okCell c
  | [], _, _, c, hc => by simp at hc
  | d :: cs, x, h, c, hc => by
    simp only [St.clE] at h
    cases hl : (d.length == k) <;> rw [hl] at h
    · cases h
    · obtain ⟨y, hy, h⟩ := bindO_eq (show bindO _ _ = _ from h)
      obtain ⟨z, hz, _⟩ := bindO_eq h
      rcases List.mem_cons.1 hc with rfl | hc
      · exact ⟨by simpa using hl, okCell_clL hy⟩
      · exact okCell_clE hz c hc
theorem clE_len {k : Nat} {ty : List (Option (Nat × Nat))} : ∀ {els : List (List AV)} {x : List (List AV) × List Id}, s.clE k ty els = some x → x.1.length = els.length
  | [], x, h => by simp [St.clE] at h; subst h; rfl
  | d :: cs, x, h => by
    simp only [St.clE] at h
    cases hl : (d.length == k) <;> rw [hl] at h
    · cases h
    · obtain ⟨y, hy, h⟩ := bindO_eq (show bindO _ _ = _ from h)
      obtain ⟨z, hz, h⟩ := bindO_eq h
      have := clE_len hz
      obtain rfl := Option.some.inj h
      simp [this]
theorem n_build {o : Oper} {T : TypeId} {len : Nat} {parts : Array (Nat × Operand)} (ho : o.op = .buildSlice T len parts) (hd : dOk n o.dst) (R : RelC W0 S F n L m s a w) (h : opE P H o.dst (.buildSlice T len parts) s K) : NS P W0 S F n K o L a w := by
  obtain ⟨⟨e, sz, by_⟩, ht, h1⟩ := onSome.elim (show onSome _ _ from h)
  obtain ⟨d, hdst, h1⟩ := onSome.elim h1
  obtain ⟨els, hels, h1⟩ := onSome.elim h1
  obtain ⟨z, hz, ⟨hlen, hpos, hlim⟩, h1⟩ := onSome.elim h1
  obtain ⟨⟨els', I⟩, hcl, hind, h2⟩ := onSome.elim h1
  obtain ⟨i, v, hi, hv, hsz, rfl, hone⟩ := zeroC_run hz
  obtain ⟨i', hu, hi', rfl, rfl⟩ := elTy_run ht
  simp only at hi hpos hlim hcl h2
  rw [hi] at hi'
  obtain rfl := Option.some.inj hi'
  have hmv := clE_mv hcl [d] 0
  obtain ⟨p1, p2, p3⟩ := partsOf_spec (a := a) hels
  have hoke := okCell_clE hcl
  have hreps : ∀ (j : Nat) e', els[j]? = some e' → ∃ u : Value, (parts.toList.map fun x => a.eval x.2)[j]? = some u ∧ RepVs (cx w S F L m s.σ) false (.read .ent) 0 e' u.cells.toList := fun j e' hj => by
    obtain ⟨x, hx, rfl⟩ := p2 j e' hj
    exact ⟨a.eval x.2, by rw [List.getElem?_map, hx]; rfl, cells_rep (R.ev x.2) (hoke _ (List.mem_of_getElem? hj)).2⟩
  have hvsz : ∀ u ∈ parts.toList.map (fun x => a.eval x.2), u.cells.size = i.size := fun u hu => by
    obtain ⟨j, hj⟩ := List.mem_iff_getElem?.1 hu
    have hjl := (List.getElem?_eq_some_iff.1 hj).1
    rw [List.length_map, ← p1] at hjl
    obtain ⟨e', he'⟩ := getElem?_of_lt hjl
    obtain ⟨u', h3, h4⟩ := hreps j e' he'
    rw [hj] at h3
    obtain rfl := Option.some.inj h3
    have := h4.len
    rw [(hoke _ (List.mem_of_getElem? he')).1] at this
    simpa using this
  have hparts : (parts.map fun (i, x) => (i, a.eval x)).toList = ((parts.toList.map fun x => a.eval x.2).zipIdx 0).map fun x => (x.2, x.1) := by
    rw [Array.toList_map]; exact p3
  have hplen : parts.toList.length = len := by rw [← p1]; exact hlen
  obtain ⟨cells, hf, hfs, hfk⟩ := Great.fill_dense hpos (parts.toList.map fun x => a.eval x.2) 0 (if len * i.size = 0 then #[] else (Array.range (len * i.size)).map (v.cells[· % v.cells.size]!)) hvsz (by
    rw [List.length_map, hplen, Nat.zero_add]
    split <;> simp_all)
  have hrun : ∀ w : World, (execOp a.eval o).run P w = .ok (.value (.slice (some ⟨w.heap.size, 0, none⟩) len len)) (w.alloc (.cells cells e)) := fun w => by
    rw [← hparts] at hf
    have hs' : ¬ (16777216 < len * i.size) := by omega
    by_cases h0 : len * i.size = 0
    · rw [if_pos h0] at hf
      simp only [execOp, ho, Instr.buildSlice, Sem.run_bind, run_underlying hu, Result.andThen_ok]
      simp [sizeOf, typeInfo, hi, h0, Array.range_zero', newRow] at hf ⊢
      simp [hf]
    · rw [if_neg h0] at hf
      have := run_buildSlice (P := P) w T e len _ cells i v hu hi hv (by omega) h0 hf
      simp only [execOp, ho, Sem.run_bind, this]
      rfl
  have hcs : cells.size = len * i.size := by
    rw [hfs]
    split
    · rename_i h0; simp [h0]
    · simp
  have hcell : ∀ (w' : World) (g : Nat), w'.heap[g]? = some (.cells cells e) → ∀ (i' : Nat) (u : Value), (parts.toList.map fun x => a.eval x.2)[i']? = some u → ∀ (j : Nat) (z : Value), u.cells.toList[j]? = some z → w'.cell? ⟨g, i' * i.size + j, none⟩ = some z := fun w' g hh i' u hu' j z hz' => by
    unfold World.cell?
    rw [show w'.heap[g]? = _ from hh]
    have hi'' := (List.getElem?_eq_some_iff.1 hu').1
    rw [List.length_map, hplen] at hi''
    have hjl : j < i.size := by
      have := (List.getElem?_eq_some_iff.1 hz').1
      have := hvsz u (List.mem_of_getElem? hu')
      simp at *; omega
    have h5 := hfk (i' * i.size + j)
    have hlt : i' * i.size + j < len * i.size := by
      have : (i' + 1) * i.size ≤ len * i.size := Nat.mul_le_mul_right _ hi''
      rw [Nat.add_mul] at this
      omega
    rw [List.length_map, hplen, if_pos ⟨by omega, by rw [Nat.zero_add]; exact hlt⟩] at h5
    have hdiv : (i' * i.size + j) / i.size = i' := by rw [Nat.add_comm, Nat.add_mul_div_right _ _ hpos, Nat.div_eq_of_lt hjl, Nat.zero_add]
    have hmod : (i' * i.size + j) % i.size = j := by rw [Nat.add_comm, Nat.add_mul_mod_self_right, Nat.mod_eq_of_lt hjl]
    rw [hdiv, hmod, Nat.sub_zero, hu'] at h5
    simp only [Option.isSome_none, Bool.false_eq_true, if_false]
    rw [h5]
    simpa using hz'
  have hρ : ∀ y r, hit ([d] :: I) y = false → mvL (mvEls [d] 0 els) (y ++ r) = y ++ r := fun y r hy => mvL_out (fun x hx => hit_mem (I := [d] :: I) (by rw [← hmv]; exact List.mem_cons_of_mem _ (List.mem_map.2 ⟨x, hx, rfl⟩)) hy) r
  have hlE : els'.length = len := by rw [clE_len hcl]; exact hlen
  have hob : ∀ (w' : World) (g : Nat) (σ' : Id → Option OB), Wrote w w' g → (∀ p, L g ≠ some p) → w'.heap[g]? = some (.cells cells e) → Keep (cx w S F L m s.σ) (cx w' S F (newL L (mvL (mvEls [d] 0 els)) g [d]) (newM m [d] (.slice (some ⟨g, 0, none⟩) len len)) (updS (killS s.σ ([d] :: I) ([d] :: I)) [d] (.row e i.size els'))) ([d] :: I) ([d] :: I) → σ' = updS (killS s.σ ([d] :: I) ([d] :: I)) [d] (.row e i.size els') → RepOb (cx w' S F (newL L (mvL (mvEls [d] 0 els)) g [d]) (newM m [d] (.slice (some ⟨g, 0, none⟩) len len)) σ') [d] (.row e i.size els') := fun w' g σ' hw hL hh kp hσ => by
    subst hσ
    have hE := clE_sound (p := [d]) (g := g) (off := 0) (q := 0) R kp.st hcl (vs := parts.toList.map fun x => a.eval x.2) (by rw [List.length_map, p1]) hreps
      (fun x hx => tr_moved' R hw (id := [d]) (fun r => mvL_in (by rw [hmv]; exact hind) hx r) (fun b r hb e => hL _ (e ▸ hb))) (fun i' u hu' j z hz' => by show w'.cell? ⟨g, 0 + i' * i.size + j, none⟩ = some z; rw [Nat.zero_add]; exact hcell w' g hh i' u hu' j z hz')
    refine ⟨some ⟨g, 0, none⟩, len, (if_pos rfl).trans (by rw [hE.1]; rw [show els.length = len from hlen]), .inr ⟨g, 0, cells, (0, 0), 0, rfl, by show newL L _ _ _ _ = _; simp [newL], hh, by rw [hE.1]; exact Nat.le_of_eq hlen, by omega, fun _ _ => .inr rfl, ?_, hE.2⟩⟩
    rw [hE.1, BIG_eq, show els.length = len from hlen]
    have : len * 1 ≤ len * i.size := Nat.mul_le_mul_left _ hpos
    omega
  cases hH : (H d == 0) <;> rw [hH] at h2
  · rcases onRef.elim h2 with ⟨id, hv, h3⟩ | ⟨_, _, h3⟩ | h3
    · obtain ⟨r, hr, ⟨h4, h5⟩, h6⟩ := onSome.elim h3
      obtain ⟨hc, hc'⟩ := relOf_some hr
      refine ⟨fun g => .slice (some ⟨g, 0, none⟩) len len, .cells cells e, hrun, fun w' g hw hg0 hL hh => ?_⟩
      have R' := e_newR R hdst hd hρ (hdrOf := fun g => .slice (some ⟨g, 0, none⟩) len len) (x := .ref [d]) hob (fun _ => .inl ⟨rfl, trivial⟩) w' g hw hg0 hL hh
      obtain ⟨u, hu, hur⟩ := hreps _ _ hc
      obtain ⟨y, ys, hy, hyr, _⟩ := hur
      have hym : y = m id := hyr.2.2.2
      have hcl0 := hcell w' g hh _ u hu 0 y (by rw [hy]; rfl)
      have hs' : (((s.chg ([d] :: I) ([d] :: I)).obj [d] (.row e i.size els')).put o.dst (.ref [d])).σ [d] = some (.row e i.size els') := by
        rw [hdst]; show updS _ _ _ _ = _; simp [updS, sel]
      have hrep := rep_at R' hs' hc' (g := g) (c := len) ((if_pos rfl).trans (by rw [hlE])) (by simpa using hcl0)
      have hval : (a.put o.dst (.slice (some ⟨g, 0, none⟩) len len)).tmps.getD (H (d + 500000)) undef = y := by
        have h7 := R.env (H (d + 500000))
        rw [hv] at h7
        have h8 : a.tmps.getD (H (d + 500000)) undef = m id := h7.2.2.2
        rw [hym, hdst]
        exact (getD_put_ne h5).trans h8
      refine ⟨_, ⟨_, _, R'.relink (d2 := H (d + 500000)) (by rw [hval]; exact hrep)⟩, by rw [hdst]; exact h6⟩
    · exact h3.elim
    · exact h3.elim
  · exact e_newN R hdst hd hρ hrun hob (fun _ => .inl ⟨rfl, trivial⟩) h2
theorem e_build {o : Oper} {T : TypeId} {len : Nat} {parts : Array (Nat × Operand)} (ho : o.op = .buildSlice T len parts) (hd : dOk n o.dst) (R : RelC W0 S F n L m s a w) (h : opE P H o.dst (.buildSlice T len parts) s K) : ES true P W0 S F n K o a w := (n_build ho hd R h).es R
end
end Go.Ev
set_option linter.unusedVariables false
set_option linter.unusedSimpArgs false
namespace Go.Ev
open Go Go.RowKit
mutual
theorem AV.kill_nil : ∀ a : AV, a.kill [] [] = a
  | .any => rfl
  | .v _ => rfl
  | .row .. => rfl
  | .rd o _ _ _ => by cases o <;> rfl
  | .rp o _ _ _ _ _ => by cases o <;> rfl
  | .ref _ => rfl
  | .ptr .. => rfl
  | .agg cs => congrArg AV.agg (killL_nil cs)
  | .tup cs => congrArg AV.tup (killL_nil cs)
  | .bx .. => rfl
  | .ifc t a => congrArg (AV.ifc t) (AV.kill_nil a)
  | .fn f cs => congrArg (AV.fn f) (killL_nil cs)
theorem killL_nil : ∀ cs : List AV, killL [] [] cs = cs
  | [] => rfl
  | c :: cs => by rw [killL, AV.kill_nil c, killL_nil cs]
end
theorem killS_nil (σ : Id → Option OB) : killS σ [] [] = σ := by
  funext x
  unfold killS
  show sel false none (mapOB [] [] (σ x)) = σ x
  cases h : σ x with
  | none => rfl
  | some ob =>
    cases ob with
    | row e sz els => rfl
    | box t cs => show some (OB.box t (killL [] [] cs)) = _; rw [killL_nil]
    | pin c x => show some (OB.pin (c.kill [] []) x) = _; rw [AV.kill_nil]
    | mp _ _ _ => rfl
theorem killE_nil (f : Nat → AV) : killE f [] [] = f := funext fun k => AV.kill_nil _
theorem St.chg_nil (s : St) : s.chg [] [] = s := by
  show St.mk (killE s.env [] []) (killS s.σ [] []) = s
  rw [killE_nil, killS_nil]
section
variable {P : Program} {H : Nat → Nat} {W0 : Bs} {S F : Nat → Prop} {n : Nat} {L : Nat → Option Id} {m : Id → Value} {s : St} {a : Act} {w : World} {K : St → Prop}
theorem RelC.grow (R : RelC W0 S F n L m s a w) {w' : World} (hw : ∀ b, b < w.heap.size → w'.heap[b]? = w.heap[b]?) (hb : W0.bel w') (hs : w.heap.size ≤ w'.heap.size) : RelC W0 S F n L m s a w' := by
  have := R.drop (I := []) (J := []) (L' := L) (m' := m) (w' := w') ?_ (fun b p h => ⟨(R.lab b p h).1, Nat.lt_of_lt_of_le (R.lab b p h).2 hs⟩) hb
  · rwa [St.chg_nil] at this
  · rw [killS_nil]
    have hold : ∀ b, S b ∨ F b → w'.heap[b]? = w.heap[b]? := fun b hb' => hw b (Nat.lt_of_lt_of_le (Bs.lt (R.old b hb')) R.below.size)
    exact ⟨⟨fun b h => ⟨h, hold b (.inl h)⟩, fun b h => ⟨h, hold b (.inr h)⟩⟩, fun _ _ => rfl, fun _ _ h => ⟨h, rfl⟩, fun y _ _ b q h => ⟨h, hw b (R.lab b _ h).2⟩⟩
theorem RelC.drew (R : RelC W0 S F n L m s a w) : RelC W0 S F n L m s a { w with drawn := w.drawn + 1 } :=
  R.grow (fun _ _ => rfl) R.below.drew (Nat.le_refl _)
def callS (S F : Nat → Prop) (L : Nat → Option Id) (lend : Bool) : Nat → Prop := fun b => if lend = true then S b else S b ∨ F b ∨ ∃ p, L b = some p
def callC (w : World) (S F : Nat → Prop) (L : Nat → Option Id) (lend : Bool) : Cx := ⟨w, callS S F L lend, F, fun _ => none, fun _ => undef, fun _ => False⟩
theorem stays_call (lend : Bool) : Stays (cx w S F L m s.σ) (callC w S F L lend) :=
  ⟨fun b h => ⟨by show callS S F L lend b; unfold callS; split; exact h; exact .inl h, rfl⟩, fun b h => ⟨h, rfl⟩⟩
theorem tr_call (o : Org) : Tr (cx w S F L m s.σ) (callC w S F L false) (.read o) (.read .ent) :=
  ⟨fun _ => trivial, fun b h => ⟨by
    show callS S F L false b
    unfold callS
    rw [if_neg (by simp)]
    cases o with
    | ent => exact .inl h
    | frz => exact .inr (.inl h)
    | obj id => obtain ⟨q, h⟩ := h; exact .inr (.inr ⟨_, h⟩)
    | «at» id _ _ _ => obtain ⟨q, h⟩ := h; exact .inr (.inr ⟨_, h⟩), rfl⟩⟩
theorem tr_call_own (id : Id) : Tr (cx w S F L m s.σ) (callC w S F L false) (.own id) (.read .ent) :=
  ⟨trivial, fun b q h => ⟨by show callS S F L false b; unfold callS; rw [if_neg (by simp)]; exact .inr (.inr ⟨_, h⟩), rfl⟩⟩
theorem coe_sound (R : RelC W0 S F n L m s a w) {c c' : AV} (h : s.coe c = some c') {y : Value} (hr : Rep (cx w S F L m s.σ) false (.read .ent) c y) : Rep (callC w S F L false) true (.read .ent) c' y := by
  cases c with
  | any => obtain rfl := Option.some.inj h; trivial
  | v u => obtain rfl := Option.some.inj h; exact hr
  | rd o e sz els =>
    obtain rfl := Option.some.inj h
    obtain ⟨_, ⟨ha, _⟩, A, c, rfl, h1, h2, h3⟩ := hr
    refine ⟨trivial, A, c, rfl, h1, h2, ?_⟩
    rcases h3 with h3 | ⟨b, off, rfl, hb, hE⟩
    · exact .inl h3
    · exact .inr ⟨b, off, rfl, ((tr_call o).2 b hb).1, RepEls.tr (stays_call false) (tr_call o) els rfl (.inr rfl) hE⟩
  | ref id =>
    simp only [St.coe] at h
    unfold coeRow at h
    split at h
    · rename_i e sz els hob
      obtain rfl := Option.some.inj h
      rw [show y = m id from hr.2.2.2]
      exact Rep.tr (stays_call false) (tr_call_own id) _ _ (R.obj id _ hob)
    · cases h
  | _ => cases h
theorem coeL_sound (R : RelC W0 S F n L m s a w) : ∀ {cs cs' : List AV}, s.coeL cs = some cs' → ∀ {vs : List Value} {q : Nat}, RepVs (cx w S F L m s.σ) false (.read .ent) q cs vs → RepVs (callC w S F L false) true (.read .ent) q cs' vs
  | [], cs', h, vs, q, hr => by obtain rfl := Option.some.inj h; exact hr
  | c :: cs, cs', h, vs, q, hr => by
    simp only [St.coeL] at h
    obtain ⟨x, hx, h⟩ := bindO_eq h
    obtain ⟨xs, hxs, h⟩ := bindO_eq h
    obtain rfl := Option.some.inj h
    obtain ⟨y, ys, rfl, h1, h2⟩ := hr
    exact ⟨y, ys, rfl, coe_sound R hx h1, coeL_sound R hxs h2⟩
theorem repCs_of {C C' : Cx} {off0 : Nat} : ∀ {cs cs' : List AV} {g off q : Nat} , C'.w = C.w → (cs'.length = cs.length) → (∀ (i : Nat) (c c' : AV) (y : Value), cs[i]? = some c → cs'[i]? = some c' → Rep C false (.read .ent) c y → Rep C' true (.read .ent) c' y) → RepCs C false (.read .ent) g off q cs → RepCs C' true (.read .ent) g off q cs'
  | [], [], _, _, _, _, _, _, h => trivial
  | [], _ :: _, _, _, _, _, hl, _, _ => by simp at hl
  | _ :: _, [], _, _, _, _, hl, _, _ => by simp at hl
  | c :: cs, c' :: cs', g, off, q, hw, hl, hc, ⟨⟨y, h1, h2, h3⟩, h⟩ => ⟨⟨y, by rw [hw]; exact h1, h2, hc 0 c c' y rfl rfl h3⟩, repCs_of (off0 := off0) hw (by simpa using hl) (fun i c c' y h1 h2 => hc (i + 1) c c' y h1 h2) h⟩
theorem coeL_at : ∀ {cs cs' : List AV}, s.coeL cs = some cs' → cs'.length = cs.length ∧ ∀ (i : Nat) (c c' : AV), cs[i]? = some c → cs'[i]? = some c' → s.coe c = some c'
  | [], cs', h => by obtain rfl := Option.some.inj h; exact ⟨rfl, fun i c c' h => by simp at h⟩
  | c :: cs, cs', h => by
    simp only [St.coeL] at h
    obtain ⟨x, hx, h⟩ := bindO_eq h
    obtain ⟨xs, hxs, h⟩ := bindO_eq h
    obtain rfl := Option.some.inj h
    obtain ⟨h1, h2⟩ := coeL_at hxs
    refine ⟨by simp [h1], fun i c1 c2 g1 g2 => ?_⟩
    cases i with
    | zero => obtain rfl := Option.some.inj g1; obtain rfl := Option.some.inj g2; exact hx
    | succ i => exact h2 i c1 c2 (by simpa using g1) (by simpa using g2)
theorem coeK_sound (R : RelC W0 S F n L m s a w) {c c' : AV} (h : s.coeK c = some c') {y : Value} (hr : Rep (cx w S F L m s.σ) false (.read .ent) c y) : Rep (callC w S F L false) true (.read .ent) c' y := by
  unfold St.coeK at h
  split at h
  · obtain ⟨hsz, rfl⟩ := sel_eq_some h
    rename_i o t sz cs
    obtain ⟨_, ha, b, off, rfl, hb, hE⟩ := hr
    have ht := tr_call (w := w) (S := S) (F := F) (L := L) (m := m) (s := s) o
    exact ⟨trivial, b, off, by simp, (ht.2 b hb).1, RepCs.tr (stays_call false) ht _ rfl (.inr rfl) hE.2.1⟩
  · rename_i id sz
    unfold coeBox at h
    split at h
    · rename_i t cs hob
      obtain ⟨cs', hcs, h⟩ := bindO_eq h
      obtain rfl := Option.some.inj h
      obtain ⟨_, hl, g, off, hm, rfl⟩ := hr
      obtain ⟨g', arr, hm', hL, hh, hs, hC⟩ := R.obj id _ hob
      obtain ⟨h1, h2⟩ := coeL_at hcs
      have hm2 : m id = .pointer (some ⟨g', 0, none⟩) := hm'
      have hm1 : hdrAddr (m id) = some ⟨g, off, none⟩ := hm
      rw [hm2] at hm1
      obtain ⟨rfl, rfl⟩ : g' = g ∧ 0 = off := by simpa [hdrAddr] using hm1
      refine ⟨trivial, g', 0, by simp, ((tr_call_own id).2 g' [] (by simpa using hL)).1, repCs_of (C := cx w S F L m s.σ) (off0 := 0) rfl h1 (fun i c c' y g1 g2 g3 => coe_sound R (h2 i c c' g1 g2) g3) hC⟩
    · cases h
  · exact coe_sound R h hr
theorem coeKL_sound (R : RelC W0 S F n L m s a w) : ∀ {cs cs' : List AV}, s.coeKL cs = some cs' → ∀ {vs : List Value} {q : Nat}, RepVs (cx w S F L m s.σ) false (.read .ent) q cs vs → RepVs (callC w S F L false) true (.read .ent) q cs' vs
  | [], cs', h, vs, q, hr => by obtain rfl := Option.some.inj h; exact hr
  | c :: cs, cs', h, vs, q, hr => by
    simp only [St.coeKL] at h
    obtain ⟨x, hx, h⟩ := bindO_eq h
    obtain ⟨xs, hxs, h⟩ := bindO_eq h
    obtain rfl := Option.some.inj h
    obtain ⟨y, ys, rfl, h1, h2⟩ := hr
    exact ⟨y, ys, rfl, coeK_sound R hx h1, coeKL_sound R hxs h2⟩
theorem coeA_sound (R : RelC W0 S F n L m s a w) {c c' : AV} (h : s.coeA c = some c') {y : Value} (hr : Rep (cx w S F L m s.σ) false (.read .ent) c y) : Rep (callC w S F L false) true (.read .ent) c' y := by
  cases c with
  | agg cs =>
    obtain ⟨x, hx, h⟩ := bindO_eq (show bindO _ _ = _ from h)
    obtain rfl := Option.some.inj h
    obtain ⟨vs, rfl, h⟩ := hr
    exact ⟨vs, rfl, coeL_sound R hx h⟩
  | fn f cs =>
    obtain ⟨x, hx, h⟩ := bindO_eq (show bindO _ _ = _ from h)
    obtain rfl := Option.some.inj h
    obtain ⟨vs, rfl, h⟩ := hr
    exact ⟨vs, rfl, coeKL_sound R hx h⟩
  | _ => simp only [St.coeA] at h; exact coeK_sound R h hr
theorem lendC_sound {c c' : AV} (h : lendC c = some c') {y : Value} (hr : Rep (cx w S F L m s.σ) false (.read .ent) c y) : Rep (callC w S F L true) true (.read .ent) c' y := by
  cases c with
  | any => obtain rfl := Option.some.inj h; trivial
  | v u => obtain rfl := Option.some.inj h; exact hr
  | rd o e sz els =>
    simp only [lendC] at h
    cases ho : isObj o with
    | true => rw [ho] at h; cases h
    | false =>
      rw [ho] at h
      obtain rfl := Option.some.inj h
      obtain ⟨_, ⟨ha, _⟩, A, c, rfl, h1, h2, h3⟩ := hr
      have hm := (stays_call (w := w) (m := m) (s := s) (S := S) (F := F) (L := L) true).org o ho
      refine ⟨by simp [ho], ⟨hm.1 ha, Cx.hdr_of ho⟩, A, c, rfl, h1, h2, ?_⟩
      rcases h3 with h3 | ⟨b, off, rfl, hb, hE⟩
      · exact .inl h3
      · exact .inr ⟨b, off, rfl, (hm.2 b hb).1, RepEls.tr (stays_call true) hm els rfl (.inr rfl) hE⟩
  | _ => cases h
theorem lendL_sound : ∀ {cs cs' : List AV}, lendL cs = some cs' → ∀ {vs : List Value} {q : Nat}, RepVs (cx w S F L m s.σ) false (.read .ent) q cs vs → RepVs (callC w S F L true) true (.read .ent) q cs' vs
  | [], cs', h, vs, q, hr => by obtain rfl := Option.some.inj h; exact hr
  | c :: cs, cs', h, vs, q, hr => by
    simp only [lendL] at h
    obtain ⟨x, hx, h⟩ := bindO_eq h
    obtain ⟨xs, hxs, h⟩ := bindO_eq h
    obtain rfl := Option.some.inj h
    obtain ⟨y, ys, rfl, h1, h2⟩ := hr
    exact ⟨y, ys, rfl, lendC_sound hx h1, lendL_sound hxs h2⟩
theorem lendA_sound {c c' : AV} (h : lendA c = some c') {y : Value} (hr : Rep (cx w S F L m s.σ) false (.read .ent) c y) : Rep (callC w S F L true) true (.read .ent) c' y := by
  cases c with
  | agg cs =>
    obtain ⟨x, hx, h⟩ := bindO_eq (show bindO _ _ = _ from h)
    obtain rfl := Option.some.inj h
    obtain ⟨vs, rfl, h⟩ := hr
    exact ⟨vs, rfl, lendL_sound hx h⟩
  | _ => simp only [lendA] at h; exact lendC_sound h hr
def frzS (F : Nat → Prop) (L : Nat → Option Id) : Nat → Prop := fun b => F b ∨ ∃ p, L b = some p
def frzX (w : World) (S F : Nat → Prop) (L : Nat → Option Id) : Cx := ⟨w, S, frzS F L, fun _ => none, fun _ => undef, fun _ => False⟩
theorem stays_frz : Stays (cx w S F L m s.σ) (frzX w S F L) := ⟨fun b h => ⟨h, rfl⟩, fun b h => ⟨.inl h, rfl⟩⟩
theorem tr_frz (o : Org) : Tr (cx w S F L m s.σ) (frzX w S F L) (.read o) (.read (frzO o)) := by
  cases o with
  | ent => exact ⟨fun _ => trivial, fun b h => ⟨h, rfl⟩⟩
  | frz => exact ⟨fun _ => trivial, fun b h => ⟨.inl h, rfl⟩⟩
  | obj id => exact ⟨fun _ => trivial, fun b h => by obtain ⟨q, h⟩ := h; exact ⟨.inr ⟨_, h⟩, rfl⟩⟩
  | «at» id _ _ _ => exact ⟨fun _ => trivial, fun b h => by obtain ⟨q, h⟩ := h; exact ⟨.inr ⟨_, h⟩, rfl⟩⟩
theorem tr_frz_own (id : Id) : Tr (cx w S F L m s.σ) (frzX w S F L) (.own id) (.read .frz) :=
  ⟨trivial, fun b q h => ⟨.inr ⟨_, h⟩, rfl⟩⟩
theorem frzO_not (o : Org) : isObj (frzO o) = false := by cases o <;> rfl
theorem frzO_al (o : Org) {C : Cx} : C.alive (frzO o) := by cases o <;> trivial
theorem frzC_sound (R : RelC W0 S F n L m s a w) {c c' : AV} (h : s.frzC c = some c') {y : Value} (hr : Rep (cx w S F L m s.σ) false (.read .ent) c y) : Rep (frzX w S F L) true (.read .ent) c' y := by
  cases c with
  | any => obtain rfl := Option.some.inj h; trivial
  | v u => obtain rfl := Option.some.inj h; exact hr
  | rd o e sz els =>
    obtain rfl := Option.some.inj h
    obtain ⟨_, ⟨ha, _⟩, A, c, rfl, h1, h2, h3⟩ := hr
    refine ⟨by simp [frzO_not], ⟨frzO_al o, Cx.hdr_of (frzO_not o)⟩, A, c, rfl, h1, h2, ?_⟩
    rcases h3 with h3 | ⟨b, off, rfl, hb, hE⟩
    · exact .inl h3
    · exact .inr ⟨b, off, rfl, ((tr_frz o).2 b hb).1, RepEls.tr stays_frz (tr_frz o) els rfl (.inr rfl) hE⟩
  | ref id =>
    simp only [St.frzC] at h
    unfold frzR at h
    split at h
    · rename_i e sz els hob
      obtain rfl := Option.some.inj h
      rw [show y = m id from hr.2.2.2]
      have hrow := Rep.tr stays_frz (tr_frz_own id) (.row e sz els) _ (R.obj id _ hob)
      obtain ⟨_, A, c, he, h1, h2, h3⟩ := hrow
      exact ⟨by simp [isObj], ⟨trivial, trivial⟩, A, c, he, h1, h2, h3⟩
    · cases h
  | _ => cases h
theorem frzL_sound (R : RelC W0 S F n L m s a w) : ∀ {cs cs' : List AV}, s.frzL cs = some cs' → ∀ {vs : List Value} {q : Nat}, RepVs (cx w S F L m s.σ) false (.read .ent) q cs vs → RepVs (frzX w S F L) true (.read .ent) q cs' vs
  | [], cs', h, vs, q, hr => by obtain rfl := Option.some.inj h; exact hr
  | c :: cs, cs', h, vs, q, hr => by
    simp only [St.frzL] at h
    obtain ⟨x, hx, h⟩ := bindO_eq h
    obtain ⟨xs, hxs, h⟩ := bindO_eq h
    obtain rfl := Option.some.inj h
    obtain ⟨y, ys, rfl, h1, h2⟩ := hr
    exact ⟨y, ys, rfl, frzC_sound R hx h1, frzL_sound R hxs h2⟩
theorem frzA_sound (R : RelC W0 S F n L m s a w) {c c' : AV} (h : s.frzA c = some c') {y : Value} (hr : Rep (cx w S F L m s.σ) false (.read .ent) c y) : Rep (frzX w S F L) true (.read .ent) c' y := by
  cases c with
  | agg cs =>
    obtain ⟨x, hx, h⟩ := bindO_eq (show bindO _ _ = _ from h)
    obtain rfl := Option.some.inj h
    obtain ⟨vs, rfl, h⟩ := hr
    exact ⟨vs, rfl, frzL_sound R hx h⟩
  | _ => simp only [St.frzA] at h; exact frzC_sound R h hr
theorem frzE_sound (R : RelC W0 S F n L m s a w) : ∀ {xs : List Operand} {cs : List AV}, s.frzE (xs.map s.ev) = some cs → ∀ q, RepVs (frzX w S F L) true (.read .ent) q cs (xs.map a.eval)
  | [], cs, h, q => by obtain rfl := Option.some.inj h; rfl
  | x :: xs, cs, h, q => by
    simp only [List.map_cons, St.frzE] at h
    obtain ⟨c, hc, h⟩ := bindO_eq h
    obtain ⟨cs', hcs, h⟩ := bindO_eq h
    obtain rfl := Option.some.inj h
    exact ⟨a.eval x, xs.map a.eval, rfl, frzA_sound R hc (R.ev x), frzE_sound R hcs _⟩
theorem nilC_read {C : Cx} {cl : Bool} {c : AV} {y : Value} (h : Rep C cl (.read .ent) c y) (t : Option (Nat × Nat)) : Rep C cl (.read .ent) (nilC t c) y := by
  unfold nilC
  split
  · exact ⟨trivial, none, 0, h.1, Nat.le_refl _, Nat.zero_le _, .inl rfl⟩
  · exact h
theorem nilL_read {C : Cx} {cl : Bool} : ∀ {ts : List (Option (Nat × Nat))} {cs : List AV} {vs : List Value} {q : Nat}, RepVs C cl (.read .ent) q cs vs → RepVs C cl (.read .ent) q (nilL ts cs) vs
  | [], cs, vs, q, h => by simpa [nilL] using h
  | _ :: _, [], vs, q, h => by simpa [nilL] using h
  | t :: ts, c :: cs, vs, q, h => by
    obtain ⟨y, ys, rfl, h1, h2⟩ := h
    exact ⟨y, ys, rfl, nilC_read h1 t, nilL_read h2⟩
theorem nilA_read {C : Cx} {cl : Bool} {c : AV} {y : Value} (h : Rep C cl (.read .ent) c y) (ts : List (Option (Nat × Nat))) : Rep C cl (.read .ent) (nilA ts c) y := by
  cases c with
  | agg cs => obtain ⟨vs, rfl, h⟩ := h; exact ⟨vs, rfl, nilL_read h⟩
  | any => trivial
  | tup cs => exact h
  | _ => exact nilC_read h _
theorem args_sound (R : RelC W0 S F n L m s a w) {lend : Bool} : ∀ {xs : List Operand} {ts : List TypeId} {cs : List AV}, argsE P s lend ts (xs.map s.ev) = some cs → ∀ q, RepVs (callC w S F L lend) true (.read .ent) q cs (xs.map a.eval)
  | [], [], cs, h, q => by obtain rfl := Option.some.inj h; rfl
  | [], _ :: _, cs, h, q => by cases h
  | x :: xs, [], cs, h, q => by cases h
  | x :: xs, t :: ts, cs, h, q => by
    simp only [List.map_cons, argsE] at h
    obtain ⟨c, hc, h⟩ := bindO_eq h
    obtain ⟨cs', hcs, h⟩ := bindO_eq h
    obtain rfl := Option.some.inj h
    refine ⟨a.eval x, xs.map a.eval, rfl, ?_, args_sound R hcs _⟩
    cases lend with
    | true => exact lendA_sound (show lendA _ = _ from hc) (R.ev x)
    | false =>
      obtain ⟨c0, hc0, hc⟩ := bindO_eq (show bindO _ _ = _ from hc)
      obtain rfl := Option.some.inj hc
      exact nilA_read (coeA_sound R hc0 (R.ev x)) _
theorem run_enter {o : Oper} {f : FuncId} {as : Array Operand} {ts : Array TypeId} (ho : o.op = .call ⟨.value (.func f), as, ts⟩) (he : (match P.funcs[f]? with | some fn => fn.body.isSome && fn.name != "runtime.NumGoroutine" | none => false) = true) :
    (execOp a.eval o).run P w = .ok (.enter f (as.map a.eval)) w := by
  split at he
  · rename_i fn hf
    simp only [Bool.and_eq_true, bne_iff_ne] at he
    obtain ⟨h1, h2⟩ := he
    have hb : fn.body.isNone = false := by cases hb : fn.body <;> simp_all
    have hb' : fn.body ≠ none := fun e => by rw [e] at h1; cases h1
    simp [execOp, ho, resolve, Act.eval, Deferred.ofValue, invoke, callFunc, hf, hb', h2]
  · cases he
theorem callG_sound {o : Oper} {f : FuncId} {vals : Array Value} (hd : dOk n o.dst) (R : RelC W0 S F n L m s a w) {lend : Bool} {cargs : List AV} {post : AV → Prop} (hM : Meets P f cargs post) (hpure : lend = true ∨ ∀ r, post r → r.pure)
    (hrun : (execOp a.eval o).run P w = .ok (.enter f vals) w) (hreps : RepVs (callC w S F L lend) true (.read .ent) 0 cargs vals.toList) (hK : ∀ r, post r → K (s.ret o.dst r)) (Q : Exit → Act → World → Prop) : o.wp P a w (fun a' w' => Lift W0 S F n K a' w' ∧ Grows w w') Q := by
  unfold Oper.wp
  rw [hrun, Oper.upon_enter]
  refine (hM.runs w (callS S F L lend) F [0] vals (fun b hb => ?_) hreps).mono fun e w' hR => ?_
  · have h1 : ∀ b, S b ∨ F b → b < w.heap.size := fun b hb => Nat.lt_of_lt_of_le (Bs.lt (R.old b hb)) R.below.size
    rcases hb with hb | hb
    · unfold callS at hb
      split at hb
      · exact h1 b (.inl hb)
      · rcases hb with hb | hb | ⟨p, hb⟩
        · exact h1 b (.inl hb)
        · exact h1 b (.inr hb)
        · exact (R.lab b p hb).2
    · exact h1 b (.inr hb)
  · obtain ⟨r, v, Lr, hpost, rfl, hrep, hlab, hbel⟩ := hR
    refine ⟨?_, hbel.size, fun b hb => hbel.block b hb⟩
    show Lift W0 S F n K (a.put o.dst v) w'
    have hK := hK r hpost
    have hbelow : W0.bel w' := R.below.trans (Bs.bel.of_below hbel (fun _ => False)) (fun _ h => h.elim)
    have R1 := R.grow (fun b hb => hbel.block b hb) hbelow hbel.size
    cases hdst : o.dst with
    | none =>
      rw [hdst] at hK
      exact ⟨s, ⟨L, m, R1⟩, hK⟩
    | some d =>
      rw [hdst] at hK hd
      refine ⟨_, R1.result (Ld := fun b => match Lr b with | some (_ :: p) => some (d :: p) | _ => none) hd (fun b => rfl) (fun b p hb => ?_) (fun m' σ' => ?_), hK⟩
      · have : ∃ q, Lr b = some q := by
          cases h : Lr b with
          | none => rw [h] at hb; cases hb
          | some q => exact ⟨q, rfl⟩
        obtain ⟨q, hq⟩ := this
        have h1 := hlab b q hq
        refine ⟨.inl (Nat.le_trans R.below.size h1.1), h1.2, ?_⟩
        cases hLb : L b with
        | none => rfl
        | some p' => have := (R.lab b p' hLb).2; omega
      · have htr : Tr ⟨w', callS S F L lend, F, Lr, fun _ => undef, fun _ => False⟩ (cx w' S F (fun b => match (match Lr b with | some (_ :: p) => some (d :: p) | _ => none : Option Id) with | some p => some p | none => L b) m' σ') (.own [0]) (.own [d]) := fun b q hb => ⟨by
          have hb' : Lr b = some (0 :: q) := hb
          show (match (match Lr b with | some (_ :: p) => some (d :: p) | _ => none : Option Id) with | some p => some p | none => L b) = _
          rw [hb']; rfl, rfl⟩
        rcases hpure with rfl | hpure
        · have hst : Stays ⟨w', callS S F L true, F, Lr, fun _ => undef, fun _ => False⟩ (cx w' S F (fun b => match (match Lr b with | some (_ :: p) => some (d :: p) | _ => none : Option Id) with | some p => some p | none => L b) m' σ') := ⟨fun b hb => ⟨by have h2 : callS S F L true b := hb; unfold callS at h2; rw [if_pos rfl] at h2; exact h2, rfl⟩, fun b hb => ⟨hb, rfl⟩⟩
          exact Rep.tr hst htr _ _ hrep
        · exact Rep.trP htr _ _ (hpure r hpost) hrep
theorem callR_sound {o : Oper} {f : FuncId} {as : Array Operand} {ts : Array TypeId} (ho : o.op = .call ⟨.value (.func f), as, ts⟩) (hd : dOk n o.dst) (R : RelC W0 S F n L m s a w)
    (h : ∃ lend cargs post, Meets P f cargs post ∧ (lend = true ∨ ∀ r, post r → r.pure) ∧ argsE P s lend (parTys P f) (as.toList.map s.ev) = some cargs ∧ ∀ r, post r → K (s.ret o.dst r)) (Q : Exit → Act → World → Prop) : o.wp P a w (fun a' w' => Lift W0 S F n K a' w' ∧ Grows w w') Q := by
  obtain ⟨lend, cargs, post, hM, hpure, hargs, hK⟩ := h
  exact callG_sound hd R hM hpure (run_enter ho hM.enters) (by simpa using args_sound R hargs 0) hK Q
theorem repVs_q {C : Cx} {cl : Bool} {o : Org} : ∀ {xs : List AV} {vs : List Value} {q q' : Nat}, RepVs C cl (.read o) q xs vs → RepVs C cl (.read o) q' xs vs
  | [], _, _, _, h => h
  | x :: xs, _, q, q', ⟨y, ys, e, h1, h2⟩ => ⟨y, ys, e, h1, repVs_q h2⟩
theorem repVs_append {C : Cx} {cl : Bool} : ∀ {xs ys : List AV} {vs us : List Value} {q q' : Nat}, RepVs C cl (.read .ent) q xs vs → RepVs C cl (.read .ent) q' ys us → RepVs C cl (.read .ent) q (xs ++ ys) (vs ++ us)
  | [], ys, vs, us, q, q', h, h' => by
    obtain rfl : vs = [] := h
    exact repVs_q h'
  | x :: xs, ys, vs, us, q, q', ⟨y, ys', e, h1, h2⟩, h' => ⟨y, ys' ++ us, by rw [e]; rfl, h1, repVs_append h2 h'⟩
theorem callV_sound {o : Oper} {f : FuncId} {x : Operand} {as : Array Operand} {ts : Array TypeId} (ho : o.op = .call ⟨.value x, as, ts⟩) (hd : dOk n o.dst) (R : RelC W0 S F n L m s a w) {cs : List AV}
    (hv : ∃ vs, a.eval x = .func (.func f) #[] vs ∧ RepVs (cx w S F L m s.σ) false (.read .ent) 0 cs vs.toList)
    (h : CallV P f (as.toList.map s.ev) cs s o.dst K) (Q : Exit → Act → World → Prop) : o.wp P a w (fun a' w' => Lift W0 S F n K a' w' ∧ Grows w w') Q := by
  obtain ⟨cargs, ccs, post, hM, hpure, hargs, hcs, hK⟩ := h
  obtain ⟨vs, he, hvs⟩ := hv
  refine callG_sound (lend := false) (vals := as.map a.eval ++ vs) hd R hM (.inr hpure) ?_ ?_ hK Q
  · have he' := hM.enters
    split at he'
    · rename_i fn hf
      simp only [Bool.and_eq_true, bne_iff_ne] at he'
      obtain ⟨h1, h2⟩ := he'
      have hb' : fn.body ≠ none := fun e => by rw [e] at h1; cases h1
      simp [execOp, ho, resolve, he, Deferred.ofValue, invoke, callFunc, hf, hb', h2]
    · cases he'
  · have h1 := args_sound R hargs 0
    have h2 := coeKL_sound R hcs (q := 0) hvs
    have := repVs_append h1 h2
    simpa using this
theorem argsV_sound (R : RelC W0 S F n L m s a w) : ∀ {xs : List AV} {ts : List TypeId} {cs : List AV} {ys : List Value} {q q' : Nat}, RepVs (cx w S F L m s.σ) false (.read .ent) q' xs ys → argsE P s false ts xs = some cs → RepVs (callC w S F L false) true (.read .ent) q cs ys
  | [], [], cs, ys, q, q', hr, h => by obtain rfl := Option.some.inj h; exact hr
  | [], _ :: _, cs, ys, q, q', hr, h => by cases h
  | x :: xs, [], cs, ys, q, q', hr, h => by cases h
  | x :: xs, t :: ts, cs, ys, q, q', hr, h => by
    obtain ⟨y, ys, rfl, h1, h2⟩ := hr
    simp only [argsE] at h
    obtain ⟨c, hc, h⟩ := bindO_eq h
    obtain ⟨cs', hcs, h⟩ := bindO_eq h
    obtain rfl := Option.some.inj h
    refine ⟨y, ys, rfl, ?_, argsV_sound R h2 hcs⟩
    obtain ⟨c0, hc0, hc⟩ := bindO_eq (show bindO _ _ = _ from hc)
    obtain rfl := Option.some.inj hc
    exact nilA_read (coeA_sound R hc0 h1) _
theorem run_method {t : TypeId} {nm : String} {f : Nat} (h : methF P t nm = some f) (k : Nat) (v : Value) (w : World) : (method (k + 1) t v nm).run P w = .ok (f, v) w := by
  unfold methF at h
  split at h
  · rename_i i d hi hd
    split at h
    · cases h
    · rename_i d' nm' sg f' hm hnp
      obtain rfl := Option.some.inj h
      obtain ⟨d, hd, hnp⟩ : ∃ d, P.underlying t = some d ∧ ∀ e, d ≠ .pointer e := ⟨_, hd, hnp⟩
      have hr : ∀ q, (receiverAt t (.val v) false q).run P w = .ok v w := fun q => by
        cases d <;> first | exact (hnp _ rfl).elim | simp [receiverAt, run_underlying hd, Place.get]
      simp [method, typeInfo, hi, hm, follow, hr]
    · cases h
  · cases h
theorem run_callMethod {t : TypeId} {nm : String} {f : Nat} (h : methF P t nm = some f) (he : (match P.funcs[f]? with | some fn => fn.body.isSome && fn.name != "runtime.NumGoroutine" | none => false) = true) (v : Value) (xs : Array Value) (w : World) : (callMethod (.iface t v) nm xs).run P w = .ok (.enter f (#[v] ++ xs)) w := by
  split at he
  · rename_i fn hf
    simp only [Bool.and_eq_true, bne_iff_ne] at he
    obtain ⟨h1, h2⟩ := he
    have hb' : fn.body ≠ none := fun e => by rw [e] at h1; cases h1
    have hk := run_method h (P.types.size + 99) v w
    have hk : (method (P.types.size + Made.depth) t v nm).run P w = .ok (f, v) w := hk
    simp [callMethod, hk, callFunc, hf, hb', h2]
  · cases he
theorem callI_sound {o : Oper} {f : FuncId} {x : Operand} {nm : String} {as : Array Operand} {ts : Array TypeId} (ho : o.op = .call ⟨.invoke x nm, as, ts⟩) (hd : dOk n o.dst) (R : RelC W0 S F n L m s a w) {t : TypeId} {y : AV}
    (hx : s.ev x = .ifc t y) (hm : methF P t nm = some f)
    (h : CallI P f (y :: as.toList.map s.ev) s o.dst K) (Q : Exit → Act → World → Prop) : o.wp P a w (fun a' w' => Lift W0 S F n K a' w' ∧ Grows w w') Q := by
  obtain ⟨cargs, post, hM, hpure, hargs, hK⟩ := h
  have hr := R.ev x
  rw [hx] at hr
  obtain ⟨v, he, hv⟩ := hr
  refine callG_sound (lend := false) (vals := #[v] ++ as.map a.eval) hd R hM (.inr hpure) ?_ ?_ hK Q
  · have h0 : (#[Value.iface t v] ++ as.map a.eval)[0]? = some (.iface t v) := by rw [Array.getElem?_append_left (Nat.zero_lt_succ 0)]; rfl
    have h1 : (#[Value.iface t v] ++ as.map a.eval).extract 1 (#[Value.iface t v] ++ as.map a.eval).size = as.map a.eval := by
      apply Array.toList_inj.1; rw [Array.toList_extract]; simp [List.take_of_length_le]
    have h3 : execOp a.eval o = (do let d ← resolve a.eval ⟨.invoke x nm, as, ts⟩ o.type; invoke d.target d.args) := by
      unfold execOp; rw [ho]
    have h2 : (execOp a.eval o).run P w = (callMethod (.iface t v) nm (as.map a.eval)).run P w := by
      rw [h3]
      simp only [resolve, he, Sem.run_bind, Sem.run_pure, Result.andThen_ok, invoke, h0, h1]
    rw [h2]
    exact run_callMethod hm hM.enters v _ w
  · have h1 : RepVs (cx w S F L m s.σ) false (.read .ent) 0 (y :: as.toList.map s.ev) (#[v] ++ as.map a.eval).toList := by
      rw [show (#[v] ++ as.map a.eval).toList = v :: as.toList.map a.eval by simp]
      exact ⟨v, as.toList.map a.eval, rfl, hv, reps_map R as.toList _⟩
    exact argsV_sound R h1 hargs
theorem callF_sound {o : Oper} {f : FuncId} {as : Array Operand} {ts : Array TypeId} (ho : o.op = .call ⟨.value (.func f), as, ts⟩) (hd : dOk n o.dst) (R : RelC W0 S F n L m s a w)
    (h : ∃ cargs post, Meets P f cargs post ∧ (∀ r, post r → r.nf) ∧ s.frzE (as.toList.map s.ev) = some cargs ∧ ∀ r, post r → K (s.ret o.dst r)) (Q : Exit → Act → World → Prop) : o.wp P a w (fun a' w' => Lift W0 S F n K a' w' ∧ Grows w w') Q := by
  obtain ⟨cargs, post, hM, hpure, hargs, hK⟩ := h
  unfold Oper.wp
  rw [run_enter ho hM.enters, Oper.upon_enter]
  have hreps := frzE_sound R hargs 0
  refine (hM.runs w S (frzS F L) [0] (as.map a.eval) (fun b hb => ?_) (by simpa [frzX] using hreps)).mono fun e w' hR => ?_
  · have h1 : ∀ b, S b ∨ F b → b < w.heap.size := fun b hb => Nat.lt_of_lt_of_le (Bs.lt (R.old b hb)) R.below.size
    rcases hb with hb | hb | ⟨p, hb⟩
    · exact h1 b (.inl hb)
    · exact h1 b (.inr hb)
    · exact (R.lab b p hb).2
  · obtain ⟨r, v, Lr, hpost, rfl, hrep, hlab, hbel⟩ := hR
    refine ⟨?_, hbel.size, fun b hb => hbel.block b hb⟩
    show Lift W0 S F n K (a.put o.dst v) w'
    have hK := hK r hpost
    have hbelow : W0.bel w' := R.below.trans (Bs.bel.of_below hbel (fun _ => False)) (fun _ h => h.elim)
    have R1 := R.grow (fun b hb => hbel.block b hb) hbelow hbel.size
    cases hdst : o.dst with
    | none =>
      rw [hdst] at hK
      exact ⟨s, ⟨L, m, R1⟩, hK⟩
    | some d =>
      rw [hdst] at hK hd
      refine ⟨_, R1.result (Ld := fun b => match Lr b with | some (_ :: p) => some (d :: p) | _ => none) hd (fun b => rfl) (fun b p hb => ?_) (fun m' σ' => ?_), hK⟩
      · have : ∃ q, Lr b = some q := by
          cases h : Lr b with
          | none => rw [h] at hb; cases hb
          | some q => exact ⟨q, rfl⟩
        obtain ⟨q, hq⟩ := this
        have h1 := hlab b q hq
        refine ⟨.inl (Nat.le_trans R.below.size h1.1), h1.2, ?_⟩
        cases hLb : L b with
        | none => rfl
        | some p' => have := (R.lab b p' hLb).2; omega
      · have htr : Tr ⟨w', S, frzS F L, Lr, fun _ => undef, fun _ => False⟩ (cx w' S F (fun b => match (match Lr b with | some (_ :: p) => some (d :: p) | _ => none : Option Id) with | some p => some p | none => L b) m' σ') (.own [0]) (.own [d]) := fun b q hb => ⟨by
          have hb' : Lr b = some (0 :: q) := hb
          show (match (match Lr b with | some (_ :: p) => some (d :: p) | _ => none : Option Id) with | some p => some p | none => L b) = _
          rw [hb']; rfl, rfl⟩
        refine Rep.trN ?_ htr _ _ (hpure r hpost) hrep
        exact fun b hb => ⟨hb, rfl⟩
end
end Go.Ev
set_option linter.unusedVariables false
set_option linter.unusedSimpArgs false
namespace Go.Ev
open Go Go.RowKit
def mvO : List (Id × Id) → Id → Option Id
  | [], _ => none
  | x :: mv, p => if x.1.isPrefixOf p then some (x.2 ++ p.drop x.1.length) else mvO mv p
theorem mvO_some : ∀ {mv : List (Id × Id)} {p q : Id}, mvO mv p = some q → ∃ x ∈ mv, ∃ r, p = x.1 ++ r ∧ q = x.2 ++ r
  | [], _, _, h => by cases h
  | x :: mv, p, q, h => by
    rw [mvO] at h
    split at h
    · rename_i hp
      obtain ⟨r, rfl⟩ := List.isPrefixOf_iff_prefix.1 hp
      exact ⟨x, by simp, r, rfl, by simpa using h.symm⟩
    · obtain ⟨y, hy, h⟩ := mvO_some h
      exact ⟨y, by simp [hy], h⟩
theorem mvO_out : ∀ {mv : List (Id × Id)} {y : Id}, (∀ x ∈ mv, cmp x.1 y = false) → ∀ r, mvO mv (y ++ r) = none
  | [], _, _, _ => rfl
  | x :: mv, y, h, r => by
    have h1 : x.1.isPrefixOf (y ++ r) = false := by
      cases hp : x.1.isPrefixOf (y ++ r) with
      | false => rfl
      | true =>
        obtain ⟨z, hz⟩ := List.isPrefixOf_iff_prefix.1 hp
        have := cmp_of_append hz
        rw [h x (by simp)] at this; cases this
    rw [mvO, h1]
    exact mvO_out (fun z hz => h z (by simp [hz])) r
theorem mvO_in : ∀ {mv : List (Id × Id)}, indep (mv.map (·.1)) = true → ∀ {x : Id × Id}, x ∈ mv → ∀ r, mvO mv (x.1 ++ r) = some (x.2 ++ r)
  | [], _, _, hx, _ => by simp at hx
  | z :: mv, hi, x, hx, r => by
    simp only [List.map_cons, indep, Bool.and_eq_true, Bool.not_eq_true'] at hi
    rw [mvO]
    rcases List.mem_cons.1 hx with rfl | hx
    · rw [if_pos (List.isPrefixOf_iff_prefix.2 (List.prefix_append _ _))]
      simp
    · have h1 : z.1.isPrefixOf (x.1 ++ r) = false := by
        cases hp : z.1.isPrefixOf (x.1 ++ r) with
        | false => rfl
        | true =>
          obtain ⟨z', hz⟩ := List.isPrefixOf_iff_prefix.1 hp
          have := cmp_of_append hz
          rw [cmp_symm, hit_mem (List.mem_map.2 ⟨x, hx, rfl⟩) hi.1] at this; cases this
      rw [h1]
      exact mvO_in hi.2 hx r
inductive Exts : List Id → List Id → Prop
  | nil : Exts [] []
  | cons {x r : Id} {xs rs : List Id} (e : Id) : x = r ++ e → Exts xs rs → Exts (x :: xs) (r :: rs)
theorem Exts.refl : ∀ l : List Id, Exts l l
  | [] => .nil
  | x :: l => .cons [] (by simp) (Exts.refl l)
theorem Exts.append {a b c d : List Id} (h : Exts a b) (k : Exts c d) : Exts (a ++ c) (b ++ d) := by
  induction h with
  | nil => exact k
  | cons e h _ ih => exact .cons e h ih
theorem cmp_ext {r e y : Id} (h : cmp (r ++ e) y = true) : cmp r y = true := by
  simp only [cmp, Bool.or_eq_true, List.isPrefixOf_iff_prefix] at h ⊢
  rcases h with ⟨z, hz⟩ | ⟨z, hz⟩
  · exact .inl ⟨e ++ z, by rw [← hz]; simp⟩
  · have := cmp_of_append (p := r) (r := e) (q := y) (r' := z) hz.symm
    simpa only [cmp, Bool.or_eq_true, List.isPrefixOf_iff_prefix] using this
theorem Exts.out {xs rs : List Id} (h : Exts xs rs) {y : Id} (hy : hit rs y = false) : hit xs y = false := by
  induction h with
  | nil => rfl
  | cons e h _ ih =>
    simp only [hit, List.any_cons, Bool.or_eq_false_iff] at hy ⊢
    refine ⟨?_, ih hy.2⟩
    cases hc : cmp _ y with
    | false => rfl
    | true => rw [h] at hc; rw [cmp_ext hc] at hy; exact absurd hy.1 (by simp)
theorem Exts.indep {xs rs : List Id} (h : Exts xs rs) (hi : indep rs = true) : indep xs = true := by
  induction h with
  | nil => rfl
  | @cons x r xs rs e hx hxs ih =>
    simp only [Go.Ev.indep, Bool.and_eq_true, Bool.not_eq_true'] at hi ⊢
    refine ⟨?_, ih hi.2⟩
    have h1 := hxs.out hi.1
    cases hh : hit xs x with
    | false => rfl
    | true =>
      obtain ⟨z, hz, hc⟩ := List.any_eq_true.1 hh
      rw [cmp_symm, hx] at hc
      have h2 := cmp_ext hc
      rw [cmp_symm, hit_mem hz h1] at h2; cases h2
section
variable {P : Program} {H : Nat → Nat} {W0 : Bs} {S F : Nat → Prop} {n : Nat} {L : Nat → Option Id} {m : Id → Value} {s : St} {a : Act} {w : World} {K : St → Prop}
def OriginQ (w : World) (S F : Nat → Prop) (L : Nat → Option Id) (m : Id → Value) (s : St) (Q : Id → Nat) : Prop :=
  ∀ id e sz els, s.σ id = some (.row e sz els) → els ≠ [] → ∃ g off arr fr c, m id = .slice (some ⟨g, off, none⟩) els.length c ∧ L g = some id ∧ w.heap[g]? = some (.cells arr e fr) ∧ els.length ≤ c ∧ off + c * sz ≤ arr.size ∧ unfrozen fr off (c * sz) ∧ els.length ≤ BIG ∧ RepEls (cx w S F L m s.σ) (.own id) g off (Q id) sz els
theorem RelC.origin (R : RelC W0 S F n L m s a w) : ∃ Q, OriginQ w S F L m s Q := by
  have h : ∀ id, ∃ q, ∀ e sz els, s.σ id = some (.row e sz els) → els ≠ [] → ∃ g off arr fr c, m id = .slice (some ⟨g, off, none⟩) els.length c ∧ L g = some id ∧ w.heap[g]? = some (.cells arr e fr) ∧ els.length ≤ c ∧ off + c * sz ≤ arr.size ∧ unfrozen fr off (c * sz) ∧ els.length ≤ BIG ∧ RepEls (cx w S F L m s.σ) (.own id) g off q sz els := fun id => by
    by_cases hh : ∃ e sz els, s.σ id = some (.row e sz els) ∧ els ≠ []
    · obtain ⟨e, sz, els, h1, h2⟩ := hh
      obtain ⟨A, c, hA, h3⟩ := R.obj id _ h1
      rcases h3 with ⟨h3, _⟩ | ⟨g, off, arr, fr, q, rfl, h4, h5, h6, h7, h8, h9, h10⟩
      · exact absurd h3 h2
      · refine ⟨q, fun e' sz' els' h1' _ => ?_⟩
        rw [h1] at h1'
        injection h1' with h1'; injection h1' with e1 e2 e3
        subst e1; subst e2; subst e3
        exact ⟨g, off, arr, fr, c, hA, h4, h5, h6, h7, h8, h9, h10⟩
    · exact ⟨0, fun e sz els h1 h2 => absurd ⟨e, sz, els, h1, h2⟩ hh⟩
  obtain ⟨Q, hQ⟩ := Classical.axiomOfChoice h
  exact ⟨Q, hQ⟩
def mvGA (s : St) (Q : Id → Nat) (t : Id) : AV → List (Id × Id)
  | .agg cs => mvCs t 0 cs
  | .ptr id _ _ _ => (id, t ++ [0]) :: (match s.σ id with | some (.box _ cs) => mvCs (t ++ [1]) 0 cs | _ => [])
  | .ref id => [(id, t)]
  | .rd (.at id sz i k) _ _ _ => [(id ++ [Q id + (i * sz + k)], t)]
  | _ => []
def mvG (s : St) (Q : Id → Nat) : Nat → List PA → List AV → List (Id × Id)
  | q, .mu _ :: ps, a :: as => mvGA s Q [q] a ++ mvG s Q (q + 1) ps as
  | q, .rd _ :: ps, _ :: as => mvG s Q (q + 1) ps as
  | _, _, _ => []
theorem mvCs_rootL : ∀ (cs : List AV) (p : Id) (q : Nat), (mvCs p q cs).map (·.1) = rootL cs
  | [], p, q => rfl
  | c :: cs, p, q => by
    have ih := mvCs_rootL cs p (q + 1)
    rw [mvCs, List.map_append, ih]
    cases c <;> rfl
theorem mvGA_exts (Q : Id → Nat) (t : Id) : ∀ c : AV, Exts ((mvGA s Q t c).map (·.1)) (s.rootA c)
  | .agg cs => by
    show Exts ((mvCs t 0 cs).map _) (rootL cs)
    rw [mvCs_rootL]; exact Exts.refl _
  | .ptr id _ _ _ => by
    simp only [mvGA, St.rootA, List.map_cons]
    refine .cons [] (by simp) ?_
    unfold rootB
    split
    · rename_i t' cs hs
      rw [hs]
      simp only []
      rw [mvCs_rootL]; exact Exts.refl _
    · rename_i hs
      split
      · rename_i t' cs hs'; exact absurd hs' (hs _ _)
      · exact .nil
  | .ref id => Exts.refl _
  | .rd o e sz els => by
    cases o with
    | «at» id sz i k => exact .cons [Q id + (i * sz + k)] rfl .nil
    | _ => exact .nil
  | .any => .nil
  | .v _ => .nil
  | .row .. => .nil
  | .rp .. => .nil
  | .tup .. => .nil
  | .bx .. => .nil
  | .ifc .. => .nil
  | .fn .. => .nil
theorem mvG_exts (Q : Id → Nat) : ∀ (ps : List PA) (as : List AV) (q : Nat), Exts ((mvG s Q q ps as).map (·.1)) (s.roots ps as)
  | [], _, _ => by simp [mvG, St.roots]; exact .nil
  | .mu _ :: ps, [], _ => by simp [mvG, St.roots]; exact .nil
  | .rd _ :: ps, [], _ => by simp [mvG, St.roots]; exact .nil
  | .mu _ :: ps, a :: as, q => by
    rw [mvG, St.roots, List.map_append]
    exact (mvGA_exts Q [q] a).append (mvG_exts Q ps as (q + 1))
  | .rd _ :: ps, a :: as, q => by
    rw [mvG, St.roots]
    exact mvG_exts Q ps as (q + 1)
theorem givL_cl : ∀ {cs vs : List AV}, s.givL cs = some vs → ∃ I, s.clL cs = some (vs, I)
  | [], vs, h => by simp [St.givL] at h; exact ⟨[], by simp [St.clL, h]⟩
  | c :: cs, vs, h => by
    simp only [St.givL] at h
    obtain ⟨x, hx, h⟩ := bindO_eq h
    obtain ⟨y, hy, h⟩ := bindO_eq h
    obtain ⟨z, hz, h1⟩ := bindO_eq hx
    obtain rfl := Option.some.inj h1
    obtain rfl := Option.some.inj h
    obtain ⟨I, hI⟩ := givL_cl hy
    refine ⟨z.2 ++ I, ?_⟩
    simp only [St.clL, hz, hI, bindO]
theorem rowCell_some {sz i k : Nat} {o : Option OB} {c : AV} (h : rowCell sz i k o = some c) : ∃ e xs cs, o = some (.row e sz xs) ∧ xs[i]? = some cs ∧ cs[k]? = some c ∧ ∃ e' s' els, c = .row e' s' els := by
  unfold rowCell at h
  split at h
  · rename_i e sz' xs
    cases hsz : (sz' == sz) <;> rw [hsz] at h
    · cases h
    · obtain ⟨c', hc', h⟩ := bindO_eq (show bindO _ _ = _ from h)
      obtain ⟨cs, h1, h2⟩ := Option.bind_eq_some_iff.1 hc'
      have : sz' = sz := by simpa using hsz
      subst this
      split at h
      · obtain rfl := Option.some.inj h
        exact ⟨e, xs, cs, rfl, h1, h2, _, _, _, rfl⟩
      · cases h
  · cases h
theorem clA_soundX (R : RelC W0 S F n L m s a w) {C' : Cx} (hs : Stays (cx w S F L m s.σ) C') {cs vs : List AV} {I : List Id} (hI : s.clL cs = some (vs, I)) {y : Value} (hr : Rep (cx w S F L m s.σ) false (.read .ent) (.agg cs) y) {t : Id}
    (htr : ∀ x ∈ mvCs t 0 cs, Tr (cx w S F L m s.σ) C' (.own x.1) (.own x.2)) (ts : List (Option (Nat × Nat))) : Rep C' true (.own t) (.agg (nilL ts vs)) y := by
  obtain ⟨ys, rfl, hr⟩ := hr
  obtain ⟨g1, g2, g3, g4⟩ := clL_sound (p := t) R hs hI (q := 0) hr htr
  refine ⟨ys, rfl, RepVs.of (by rw [nilL_length, g1]; simpa using g2) fun j c' hj => ?_⟩
  obtain ⟨ty, u, h3, rfl⟩ := nilL_at hj
  obtain ⟨y, h4, h5⟩ := g4 j u h3
  exact ⟨y, h4, rep_nilC h5 ty⟩
theorem giv_sound (R : RelC W0 S F n L m s a w) {Q : Id → Nat} (hQ : OriginQ w S F L m s Q) {C' : Cx} (hs : Stays (cx w S F L m s.σ) C') {ts : List (Option (Nat × Nat))} {c v : AV} (h : s.givA ts c = some v) {y : Value} (hr : Rep (cx w S F L m s.σ) false (.read .ent) c y) {t : Id}
    (htr : ∀ x ∈ mvGA s Q t c, Tr (cx w S F L m s.σ) C' (.own x.1) (.own x.2)) : Rep C' true (.own t) v y := by
  have plain : ∀ x, s.givC c = bindO (s.clC c) (fun x => some x.1) → s.givC c = some x → (∀ z ∈ mvC t c, Tr (cx w S F L m s.σ) C' (.own z.1) (.own z.2)) → Rep C' true (.own t) (nilC (ts.headD none) x) y := fun x e hx htr => by
    rw [e] at hx
    obtain ⟨z, hz, h1⟩ := bindO_eq hx
    obtain rfl := Option.some.inj h1
    exact rep_nilC (clC_sound R hs (show s.clC c = some (z.1, z.2) from hz) hr htr).1 _
  cases c with
  | agg cs =>
    obtain ⟨x, hx, h⟩ := bindO_eq (show bindO _ _ = _ from h)
    obtain rfl := Option.some.inj h
    obtain ⟨I, hI⟩ := givL_cl hx
    exact clA_soundX R hs hI hr htr ts
  | ptr id sz i k =>
    have hx : i = 0 ∧ k = 0 ∧ ∃ b x, boxTC (s.σ id) = some b ∧ s.givL b.2 = some x ∧ v = .bx b.1 (nilL ts x) := by
      unfold St.givA at h
      split at h
      · rename_i e; cases e
      · rename_i e
        injection e with e1 e2 e3 e4
        subst e1; subst e3; subst e4
        obtain ⟨b, hb, h⟩ := bindO_eq h
        obtain ⟨x, hx, h⟩ := bindO_eq h
        exact ⟨rfl, rfl, b, x, hb, hx, (Option.some.inj h).symm⟩
      · obtain ⟨x, hx, _⟩ := bindO_eq h
        simp [St.givC, St.clC, bindO] at hx
    obtain ⟨rfl, rfl, b, x, hb, hx, rfl⟩ := hx
    obtain ⟨I, hI⟩ := givL_cl hx
    unfold boxTC at hb
    split at hb
    · rename_i tt cs hob
      obtain rfl := Option.some.inj hb
      obtain ⟨g, arr, h1, h2, h3, h4, h5⟩ := R.obj id _ hob
      obtain ⟨_, _, g', off, h6, rfl⟩ := hr
      rw [h1] at h6
      simp only [hdrAddr, Option.some.injEq, Addr.mk.injEq] at h6
      obtain ⟨rfl, rfl, _⟩ := h6
      simp only [mvGA, hob] at htr
      have ht := (htr (id, t ++ [0]) (by simp)) g [] (by simpa using h2)
      have hcell : ∀ o, C'.w.cell? ⟨g, o, none⟩ = w.cell? ⟨g, o, none⟩ := fun o => cell_same ht.2 o
      obtain ⟨vs, g1, g2⟩ := h5.cells
      have hreps : RepVs (cx w S F L m s.σ) false (.read .ent) 0 cs vs := RepVs.of g1 fun j c hc => by
        obtain ⟨y, k1, _, k3⟩ := h5.at_ hc
        have hj : j < vs.length := by rw [g1]; exact (List.getElem?_eq_some_iff.1 hc).1
        have h7 : vs[j]? = some vs[j] := List.getElem?_eq_getElem hj
        have h8 := (g2 j _ h7).1
        rw [k1] at h8
        exact ⟨y, by rw [h7, h8], k3⟩
      obtain ⟨k1, k2, k3, k4⟩ := clL_sound (p := t ++ [1]) R hs hI (q := 0) hreps (fun x hx => htr x (by simp [hx]))
      refine ⟨g, arr, by simp, by simpa using ht.1, ht.2.trans h3, by rw [nilL_length, k1]; exact h4, RepCs.of fun j c hc => ?_⟩
      obtain ⟨ty, u, h7, rfl⟩ := nilL_at hc
      obtain ⟨y, h8, h9⟩ := k4 j u h7
      exact ⟨y, (hcell _).trans (g2 j y h8).1, k3 y (List.mem_of_getElem? h8), rep_nilC h9 ty⟩
    · cases hb
  | ref id =>
    obtain ⟨x, hx, h⟩ := bindO_eq (show bindO _ _ = _ from h)
    obtain rfl := Option.some.inj h
    have hx : shapeOf (s.σ id) = some x := hx
    unfold shapeOf at hx
    split at hx
    · rename_i e sz els hob
      obtain rfl := Option.some.inj hx
      rw [show y = m id from hr.2.2.2]
      exact rep_nilC (Rep.tr hs (htr (id, t) (by simp [mvGA])) _ _ (R.obj id _ hob)) _
    · cases hx
  | rd o e sz els =>
    obtain ⟨x, hx, h⟩ := bindO_eq (show bindO _ _ = _ from h)
    obtain rfl := Option.some.inj h
    cases o with
    | «at» id sz i k =>
      obtain ⟨e1, xs, cs, hob, h1, h2, e', s', els', rfl⟩ := rowCell_some (show rowCell sz i k (s.σ id) = some x from hx)
      obtain ⟨_, ⟨_, g, off, hg, hL, hc⟩, _⟩ := hr
      obtain ⟨g2, off2, arr, fr, c2, hm, hL2, hh, _, _, _, _, hE⟩ := hQ id _ _ _ hob (by intro e; rw [e] at h1; simp at h1)
      rw [show (cx w S F L m s.σ).m id = m id from rfl, hm] at hg
      simp only [hdrAddr, Option.some.injEq, Addr.mk.injEq] at hg
      obtain ⟨rfl, rfl, _⟩ := hg
      obtain ⟨_, hC⟩ := hE.at_ h1
      obtain ⟨y', hy1, _, hy3⟩ := hC.at_ h2
      have : y' = y := by
        rw [Nat.add_assoc] at hy1
        exact Option.some.inj (hy1.symm.trans hc)
      subst this
      rw [show (Md.own id).sub (Q id + i * sz + k) = .own (id ++ [Q id + (i * sz + k)]) by rw [Nat.add_assoc]; rfl] at hy3
      exact rep_nilC (Rep.tr hs (htr (id ++ [Q id + (i * sz + k)], t) (by simp [mvGA])) _ _ hy3) _
    | ent => exact plain x rfl hx (fun z hz => by simp [mvC] at hz)
    | frz => exact plain x rfl hx (fun z hz => by simp [mvC] at hz)
    | obj => simp [St.givC, St.clC, bindO, isObj, sel] at hx
  | any => simp [St.givA, St.givC, St.clC, bindO] at h
  | row => simp [St.givA, St.givC, St.clC, bindO] at h
  | rp => simp [St.givA, St.givC, St.clC, bindO] at h
  | tup => simp [St.givA, St.givC, St.clC, bindO] at h
  | bx => simp [St.givA, St.givC, St.clC, bindO] at h
  | v u =>
    obtain ⟨x, hx, h⟩ := bindO_eq (show bindO _ _ = _ from h)
    obtain rfl := Option.some.inj h
    exact plain x rfl hx (fun z hz => by simp [mvC] at hz)
  | ifc t' b =>
    obtain ⟨x, hx, h⟩ := bindO_eq (show bindO _ _ = _ from h)
    obtain rfl := Option.some.inj h
    exact plain x rfl hx (fun z hz => by simp [mvC] at hz)
  | fn f cs =>
    obtain ⟨x, hx, h⟩ := bindO_eq (show bindO _ _ = _ from h)
    obtain rfl := Option.some.inj h
    exact plain x rfl hx (fun z hz => by simp [mvC] at hz)
theorem coeX_sound (R : RelC W0 S F n L m s a w) {C' : Cx} {J : List Id} (hst : Stays (cx w S F L m s.σ) C') (hro : ∀ o, killO J o = false → Tr (cx w S F L m s.σ) C' (.read o) (.read .ent)) (hown : ∀ id, hit J id = false → Tr (cx w S F L m s.σ) C' (.own id) (.read .ent))
    {c c' : AV} (hap : apC J c = true) (h : s.coe c = some c') {y : Value} (hr : Rep (cx w S F L m s.σ) false (.read .ent) c y) : Rep C' true (.read .ent) c' y := by
  cases c with
  | any => obtain rfl := Option.some.inj h; trivial
  | v u => obtain rfl := Option.some.inj h; exact hr
  | rd o e sz els =>
    obtain rfl := Option.some.inj h
    obtain ⟨_, ⟨ha, _⟩, A, c, rfl, h1, h2, h3⟩ := hr
    have ht := hro o (by simpa [apC] using hap)
    refine ⟨ht.1 ha, A, c, rfl, h1, h2, ?_⟩
    rcases h3 with h3 | ⟨b, off, rfl, hb, hE⟩
    · exact .inl h3
    · exact .inr ⟨b, off, rfl, (ht.2 b hb).1, RepEls.tr hst ht els (ht.2 b hb).2 (.inr rfl) hE⟩
  | ref id =>
    simp only [St.coe] at h
    unfold coeRow at h
    split at h
    · rename_i e sz els hob
      obtain rfl := Option.some.inj h
      rw [show y = m id from hr.2.2.2]
      exact Rep.tr hst (hown id (by simpa [apC] using hap)) _ _ (R.obj id _ hob)
    · cases h
  | _ => cases h
theorem coeXL_sound (R : RelC W0 S F n L m s a w) {C' : Cx} {J : List Id} (hst : Stays (cx w S F L m s.σ) C') (hro : ∀ o, killO J o = false → Tr (cx w S F L m s.σ) C' (.read o) (.read .ent)) (hown : ∀ id, hit J id = false → Tr (cx w S F L m s.σ) C' (.own id) (.read .ent)) :
    ∀ {cs cs' : List AV}, apL J cs = true → s.coeL cs = some cs' → ∀ {vs : List Value} {q : Nat}, RepVs (cx w S F L m s.σ) false (.read .ent) q cs vs → RepVs C' true (.read .ent) q cs' vs
  | [], cs', _, h, vs, q, hr => by obtain rfl := Option.some.inj h; exact hr
  | c :: cs, cs', hap, h, vs, q, hr => by
    simp only [St.coeL] at h
    obtain ⟨x, hx, h⟩ := bindO_eq h
    obtain ⟨xs, hxs, h⟩ := bindO_eq h
    obtain rfl := Option.some.inj h
    obtain ⟨y, ys, rfl, h1, h2⟩ := hr
    simp only [apL, Bool.and_eq_true] at hap
    exact ⟨y, ys, rfl, coeX_sound R hst hro hown hap.1 hx h1, coeXL_sound R hst hro hown hap.2 hxs h2⟩
theorem apL_at {J : List Id} : ∀ {cs : List AV}, apL J cs = true → ∀ (i : Nat) (c : AV), cs[i]? = some c → apC J c = true
  | [], _, i, c, h => by simp at h
  | x :: xs, hap, i, c, h => by
    simp only [apL, Bool.and_eq_true] at hap
    cases i with
    | zero => obtain rfl := Option.some.inj h; exact hap.1
    | succ i => exact apL_at hap.2 i c (by simpa using h)
theorem coeXK_sound (R : RelC W0 S F n L m s a w) {C' : Cx} {J : List Id} (hw : C'.w = w) (hst : Stays (cx w S F L m s.σ) C') (hro : ∀ o, killO J o = false → Tr (cx w S F L m s.σ) C' (.read o) (.read .ent)) (hown : ∀ id, hit J id = false → Tr (cx w S F L m s.σ) C' (.own id) (.read .ent))
    {c c' : AV} (hap : s.apK J c = true) (h : s.coeK c = some c') {y : Value} (hr : Rep (cx w S F L m s.σ) false (.read .ent) c y) : Rep C' true (.read .ent) c' y := by
  unfold St.coeK at h
  split at h
  · obtain ⟨hsz, rfl⟩ := sel_eq_some h
    rename_i o t sz cs
    obtain ⟨_, ha, b, off, rfl, hb, hE⟩ := hr
    have ht := hro o (by simpa [St.apK] using hap)
    exact ⟨ht.1 ha, b, off, by simp, (ht.2 b hb).1, RepCs.tr hst ht _ (ht.2 b hb).2 (.inr rfl) hE.2.1⟩
  · rename_i id sz
    unfold coeBox at h
    split at h
    · rename_i t cs hob
      obtain ⟨cs', hcs, h⟩ := bindO_eq h
      obtain rfl := Option.some.inj h
      simp only [St.apK, Bool.and_eq_true, Bool.not_eq_true', hob, apBox] at hap
      obtain ⟨_, hl, g, off, hm, rfl⟩ := hr
      obtain ⟨g', arr, hm', hL, hh, hs, hC⟩ := R.obj id _ hob
      obtain ⟨h1, h2⟩ := coeL_at hcs
      have hm2 : m id = .pointer (some ⟨g', 0, none⟩) := hm'
      have hm1 : hdrAddr (m id) = some ⟨g, off, none⟩ := hm
      rw [hm2] at hm1
      obtain ⟨rfl, rfl⟩ : g' = g ∧ 0 = off := by simpa [hdrAddr] using hm1
      refine ⟨(hown id hap.1).1, g', 0, by simp, ((hown id hap.1).2 g' [] (by simpa using hL)).1, repCs_of (C := cx w S F L m s.σ) (off0 := 0) hw h1 (fun i c c' y g1 g2 g3 => coeX_sound R hst hro hown (apL_at hap.2 i c g1) (h2 i c c' g1 g2) g3) hC⟩
    · cases h
  · rename_i hn1 hn2
    refine coeX_sound R hst hro hown ?_ h hr
    cases c with
    | ptr => cases h
    | rp => cases h
    | _ => exact hap
theorem coeXKL_sound (R : RelC W0 S F n L m s a w) {C' : Cx} {J : List Id} (hw : C'.w = w) (hst : Stays (cx w S F L m s.σ) C') (hro : ∀ o, killO J o = false → Tr (cx w S F L m s.σ) C' (.read o) (.read .ent)) (hown : ∀ id, hit J id = false → Tr (cx w S F L m s.σ) C' (.own id) (.read .ent)) :
    ∀ {cs cs' : List AV}, s.apKL J cs = true → s.coeKL cs = some cs' → ∀ {vs : List Value} {q : Nat}, RepVs (cx w S F L m s.σ) false (.read .ent) q cs vs → RepVs C' true (.read .ent) q cs' vs
  | [], cs', _, h, vs, q, hr => by obtain rfl := Option.some.inj h; exact hr
  | c :: cs, cs', hap, h, vs, q, hr => by
    simp only [St.coeKL] at h
    obtain ⟨x, hx, h⟩ := bindO_eq h
    obtain ⟨xs, hxs, h⟩ := bindO_eq h
    obtain rfl := Option.some.inj h
    obtain ⟨y, ys, rfl, h1, h2⟩ := hr
    simp only [St.apKL, Bool.and_eq_true] at hap
    exact ⟨y, ys, rfl, coeXK_sound R hw hst hro hown hap.1 hx h1, coeXKL_sound R hw hst hro hown hap.2 hxs h2⟩
theorem coeXA_sound (R : RelC W0 S F n L m s a w) {C' : Cx} {J : List Id} (hw : C'.w = w) (hst : Stays (cx w S F L m s.σ) C') (hro : ∀ o, killO J o = false → Tr (cx w S F L m s.σ) C' (.read o) (.read .ent)) (hown : ∀ id, hit J id = false → Tr (cx w S F L m s.σ) C' (.own id) (.read .ent))
    {c c' : AV} (hap : s.apA J c = true) (h : s.coeA c = some c') {y : Value} (hr : Rep (cx w S F L m s.σ) false (.read .ent) c y) : Rep C' true (.read .ent) c' y := by
  cases c with
  | agg cs =>
    obtain ⟨x, hx, h⟩ := bindO_eq (show bindO _ _ = _ from h)
    obtain rfl := Option.some.inj h
    obtain ⟨vs, rfl, h⟩ := hr
    exact ⟨vs, rfl, coeXL_sound R hst hro hown (by simpa [St.apA] using hap) hx h⟩
  | fn f cs =>
    obtain ⟨x, hx, h⟩ := bindO_eq (show bindO _ _ = _ from h)
    obtain rfl := Option.some.inj h
    obtain ⟨vs, rfl, h⟩ := hr
    exact ⟨vs, rfl, coeXKL_sound R hw hst hro hown hap hx h⟩
  | _ => simp only [St.coeA] at h; simp only [St.apA] at hap; exact coeXK_sound R hw hst hro hown hap h hr
theorem lendX_sound {C' : Cx} (hst : Stays (cx w S F L m s.σ) C') {c c' : AV} (h : lendC c = some c') {y : Value} (hr : Rep (cx w S F L m s.σ) false (.read .ent) c y) : Rep C' true (.read .ent) c' y := by
  cases c with
  | any => obtain rfl := Option.some.inj h; trivial
  | v u => obtain rfl := Option.some.inj h; exact hr
  | rd o e sz els =>
    simp only [lendC] at h
    cases ho : isObj o with
    | true => rw [ho] at h; cases h
    | false =>
      rw [ho] at h
      obtain rfl := Option.some.inj h
      obtain ⟨_, ⟨ha, _⟩, A, c, rfl, h1, h2, h3⟩ := hr
      have hm := hst.org o ho
      refine ⟨by simp [ho], ⟨hm.1 ha, Cx.hdr_of ho⟩, A, c, rfl, h1, h2, ?_⟩
      rcases h3 with h3 | ⟨b, off, rfl, hb, hE⟩
      · exact .inl h3
      · exact .inr ⟨b, off, rfl, (hm.2 b hb).1, RepEls.tr hst hm els (hm.2 b hb).2 (.inr rfl) hE⟩
  | _ => cases h
theorem lendXL_sound {C' : Cx} (hst : Stays (cx w S F L m s.σ) C') : ∀ {cs cs' : List AV}, lendL cs = some cs' → ∀ {vs : List Value} {q : Nat}, RepVs (cx w S F L m s.σ) false (.read .ent) q cs vs → RepVs C' true (.read .ent) q cs' vs
  | [], cs', h, vs, q, hr => by obtain rfl := Option.some.inj h; exact hr
  | c :: cs, cs', h, vs, q, hr => by
    simp only [lendL] at h
    obtain ⟨x, hx, h⟩ := bindO_eq h
    obtain ⟨xs, hxs, h⟩ := bindO_eq h
    obtain rfl := Option.some.inj h
    obtain ⟨y, ys, rfl, h1, h2⟩ := hr
    exact ⟨y, ys, rfl, lendX_sound hst hx h1, lendXL_sound hst hxs h2⟩
theorem lendXA_sound {C' : Cx} (hst : Stays (cx w S F L m s.σ) C') {c c' : AV} (h : lendA c = some c') {y : Value} (hr : Rep (cx w S F L m s.σ) false (.read .ent) c y) : Rep C' true (.read .ent) c' y := by
  cases c with
  | agg cs =>
    obtain ⟨x, hx, h⟩ := bindO_eq (show bindO _ _ = _ from h)
    obtain rfl := Option.some.inj h
    obtain ⟨vs, rfl, h⟩ := hr
    exact ⟨vs, rfl, lendXL_sound hst hx h⟩
  | _ => simp only [lendA] at h; exact lendX_sound hst h hr
theorem parg_sound (R : RelC W0 S F n L m s a w) {Q : Id → Nat} (hQ : OriginQ w S F L m s Q) {lend : Bool} {C' : Cx} {J : List Id} (hw : C'.w = w) (hst : Stays (cx w S F L m s.σ) C') (hro : lend = false → ∀ o, killO J o = false → Tr (cx w S F L m s.σ) C' (.read o) (.read .ent)) (hown : lend = false → ∀ id, hit J id = false → Tr (cx w S F L m s.σ) C' (.own id) (.read .ent)) :
    ∀ {ps : List PA} {ts : List TypeId} {xs : List Operand} {out : List PA} {q : Nat}, pargE P s lend J ps ts (xs.map s.ev) = some out → (∀ x ∈ mvG s Q q ps (xs.map s.ev), Tr (cx w S F L m s.σ) C' (.own x.1) (.own x.2)) → RepPs C' q out (xs.map a.eval)
  | [], [], [], out, q, h, _ => by obtain rfl := Option.some.inj h; rfl
  | [], [], _ :: _, out, q, h, _ => by cases h
  | [], _ :: _, _, out, q, h, _ => by simp [pargE] at h
  | .rd _ :: _, [], _, out, q, h, _ => by simp [pargE] at h
  | .mu _ :: _, [], _, out, q, h, _ => by simp [pargE] at h
  | .rd _ :: _, _ :: _, [], out, q, h, _ => by cases h
  | .mu _ :: _, _ :: _, [], out, q, h, _ => by cases h
  | .rd p :: ps, t :: ts, x :: xs, out, q, h, htr => by
    simp only [List.map_cons, pargE] at h
    obtain ⟨c, hc, h⟩ := bindO_eq h
    obtain ⟨cs', hcs, h⟩ := bindO_eq h
    obtain rfl := Option.some.inj h
    refine ⟨a.eval x, xs.map a.eval, rfl, ?_, parg_sound R hQ hw hst hro hown hcs (fun z hz => htr z (by simpa [mvG] using hz))⟩
    cases hap : s.apA J (s.ev x) <;> rw [hap] at hc
    · cases hc
    · cases lend with
      | true => exact lendXA_sound hst (show lendA _ = _ from hc) (R.ev x)
      | false =>
        obtain ⟨c0, hc0, hc⟩ := bindO_eq (show bindO _ _ = _ from hc)
        obtain rfl := Option.some.inj hc
        exact nilA_read (coeXA_sound R hw hst (hro rfl) (hown rfl) hap hc0 (R.ev x)) _
  | .mu p :: ps, t :: ts, x :: xs, out, q, h, htr => by
    simp only [List.map_cons, pargE] at h
    obtain ⟨c, hc, h⟩ := bindO_eq h
    obtain ⟨cs', hcs, h⟩ := bindO_eq h
    obtain rfl := Option.some.inj h
    exact ⟨a.eval x, xs.map a.eval, rfl, giv_sound R hQ hst hc (R.ev x) (fun z hz => htr z (by simp [mvG, hz])), parg_sound R hQ hw hst hro hown hcs (fun z hz => htr z (by simp [mvG, hz]))⟩
def rhoA (Q : Id → Nat) : AV → AV → Id → Option Id
  | .ref id, .row .., r => some (id ++ r)
  | .rd (.at id sz i k) _ _ _, .row .., r => some (id ++ [Q id + (i * sz + k)] ++ r)
  | .agg cs, .agg _, k :: r => match cs[k]? with | some (.ref id) => some (id ++ r) | _ => none
  | .ptr id _ _ _, .bx .., 0 :: r => some (id ++ r)
  | .ptr id _ _ _, .bx .., 1 :: r => some (1000002 :: id ++ r)
  | _, _, _ => none
theorem trX {C C' : Cx} {md md' : Md} (hm : Tr C C' md md') {c : AV} {x : Value} (hp : Stays C C' ∨ c.pure) (h : Rep C true md c x) : Rep C' true md' c x :=
  hp.elim (fun hs => Rep.tr hs hm c x h) (fun hp => Rep.trP hm c x hp h)
theorem pureCs_at : ∀ {cs : List AV} {j : Nat} {c : AV}, pureCs cs → cs[j]? = some c → c.pure
  | [], _, _, _, h => by simp at h
  | d :: cs, 0, c, hp, h => by obtain rfl : d = c := by simpa using h
                               exact hp.1
  | d :: cs, j + 1, c, hp, h => pureCs_at hp.2 (by simpa using h)
theorem bkL_spec : ∀ {cs ds : List AV} {x : Id × OB}, x ∈ bkL s cs ds → ∃ (j : Nat) (e sz : Nat) (els : List (List AV)), cs[j]? = some (.ref x.1) ∧ ds[j]? = some (.row e sz els) ∧ x.2 = .row e sz els
  | [], _, x, h => by simp [bkL] at h
  | c :: cs, [], x, h => by cases c <;> simp [bkL] at h
  | c :: cs, d :: ds, x, h => by
    have tail : x ∈ bkL s cs ds → ∃ (j : Nat) (e sz : Nat) (els : List (List AV)), (c :: cs)[j]? = some (.ref x.1) ∧ (d :: ds)[j]? = some (.row e sz els) ∧ x.2 = .row e sz els := fun h => by
      obtain ⟨j, e, sz, els, h1, h2, h3⟩ := bkL_spec h
      exact ⟨j + 1, e, sz, els, by simpa using h1, by simpa using h2, h3⟩
    unfold bkL at h
    split at h
    · rename_i id cs' e sz els ds' e1 e2
      injection e1 with e1 e1'; injection e2 with e2 e2'
      subst e1; subst e1'; subst e2; subst e2'
      rcases List.mem_cons.1 h with rfl | h
      · exact ⟨0, e, sz, els, rfl, rfl, rfl⟩
      · exact tail h
    · rename_i e1 e2
      injection e1 with e1 e1'; injection e2 with e2 e2'
      subst e1'; subst e2'
      exact tail h
    · simp at h
theorem bkA_sound (R : RelC W0 S F n L m s a w) {Q : Id → Nat} (hQ : OriginQ w S F L m s Q) {Cr C1 : Cx} {c rr : AV} {y : Value} {t : Id} {ts : List (Option (Nat × Nat))} {v0 : AV} (hr : Rep (cx w S F L m s.σ) false (.read .ent) c y) (hg : s.givA ts c = some v0) (hrr : Rep Cr true (.own t) rr y)
    (hρ : ∀ b e, Cr.L b = some (t ++ e) → C1.L b = rhoA Q c rr e ∧ C1.w.heap[b]? = Cr.w.heap[b]?) (hp : Stays Cr C1 ∨ rr.pure) (hm : ∀ id ∈ rrootA c, C1.m id = m id) (hl : ∀ x ∈ bkA s c rr, C1.live x.1)
    (hch : ∀ id sz i k g off, c = .ptr id sz i k → m id = .pointer (some ⟨g, off, none⟩) → ∀ j, C1.m (1000002 :: id ++ [j]) = (C1.w.cell? ⟨g, j, none⟩).getD undef) (hst : Stays (cx w S F L m s.σ) C1)
    (hat : ∀ id sz i k e z els, c = .rd (.at id sz i k) e z els → ∀ b q, L b = some (id ++ q) → (∀ r, q ≠ (Q id + (i * sz + k)) :: r) → C1.L b = some (id ++ q) ∧ C1.w.heap[b]? = w.heap[b]?) : ∀ x ∈ bkA s c rr, RepOb C1 x.1 x.2 := by
  intro x hx
  cases c with
  | ref id =>
    cases rr with
    | row e sz els =>
      have hx : x ∈ [(id, OB.row e sz els)] := hx
      simp only [List.mem_singleton] at hx
      subst hx
      show Rep C1 true (.own id) (.row e sz els) (C1.m id)
      rw [hm id (by simp [rrootA, rootC]), ← show y = m id from hr.2.2.2]
      exact trX (show Tr Cr C1 (.own t) (.own id) from fun b q hb => hρ b q hb) hp hrr
    | _ => simp [bkA, bkC] at hx
  | rd o e0 z0 els0 =>
    cases o with
    | «at» id sz i k =>
      cases rr with
      | row e z els =>
        simp only [bkA, bkC, backAt] at hx
        obtain ⟨x0, hx0, _⟩ := bindO_eq (show bindO _ _ = _ from hg)
        obtain ⟨e1, xs, cs, hob, h1, h2, e', s', els', rfl⟩ := rowCell_some (show rowCell sz i k (s.σ id) = some x0 from hx0)
        rw [hob] at hx
        simp only [List.mem_singleton] at hx
        subst hx
        obtain ⟨_, ⟨_, g, off, hgm, hL, hc⟩, _⟩ := hr
        obtain ⟨g2, off2, arr, fr, c2, hmm, hL2, hh, b1, b2, b3, b4, hE⟩ := hQ id _ _ _ hob (by intro e; rw [e] at h1; simp at h1)
        rw [show (cx w S F L m s.σ).m id = m id from rfl, hmm] at hgm
        simp only [hdrAddr, Option.some.injEq, Addr.mk.injEq] at hgm
        obtain ⟨rfl, rfl, _⟩ := hgm
        have hset : setCellAt xs i k (.row e z els) = xs.set i (cs.set k (.row e z els)) := by simp [setCellAt, h1]
        have hself := hat id sz i k _ _ _ rfl g2 [] (by simpa using hL2) (by simp)
        have hheap : C1.w.heap[g2]? = some (.cells arr e1 fr) := hself.2.trans hh
        have hcell : ∀ o, C1.w.cell? ⟨g2, o, none⟩ = w.cell? ⟨g2, o, none⟩ := fun o => cell_same hself.2 o
        have htr : ∀ j, j ≠ Q id + (i * sz + k) → Tr (cx w S F L m s.σ) C1 (.own (id ++ [j])) (.own (id ++ [j])) := fun j hj b q hb => by
          have hb' : L b = some (id ++ (j :: q)) := by have h9 : L b = some (id ++ [j] ++ q) := hb; rw [h9]; simp
          have := hat id sz i k _ _ _ rfl b (j :: q) hb' (fun r e => hj (by injection e))
          exact ⟨by simpa using this.1, this.2⟩
        show Rep C1 true (.own id) (.row e1 sz (setCellAt xs i k (.row e z els))) (C1.m id)
        rw [hset, hm id (by simp [rrootA, rootC]), hmm]
        refine ⟨_, c2, by rw [List.length_set], .inr ⟨g2, off2, arr, fr, Q id, rfl, by simpa using hself.1, hheap, by rw [List.length_set]; exact b1, b2, b3, by rw [List.length_set]; exact b4, RepEls.of fun i' cs' hi' => ?_⟩⟩
        have hil := (List.getElem?_eq_some_iff.1 h1).1
        rw [List.getElem?_set] at hi'
        obtain ⟨hcl0, hC0⟩ := hE.at_ h1
        have hkl : k < sz := by rw [← hcl0]; exact (List.getElem?_eq_some_iff.1 h2).1
        split at hi'
        · rename_i e2
          subst e2
          obtain rfl := Option.some.inj hi'
          refine ⟨by rw [List.length_set]; exact hcl0, RepCs.of fun j c' hj => ?_⟩
          rw [List.getElem?_set] at hj
          split at hj
          · rename_i e3
            subst e3
            split at hj
            · obtain rfl := Option.some.inj hj
              obtain ⟨y', hy1, hy2, _⟩ := hC0.at_ h2
              have : y' = y := by
                rw [Nat.add_assoc] at hy1
                exact Option.some.inj (hy1.symm.trans hc)
              subst this
              refine ⟨y', (hcell _).trans hy1, hy2, ?_⟩
              rw [show (Md.own id).sub (Q id + i * sz + k) = .own (id ++ [Q id + (i * sz + k)]) by rw [Nat.add_assoc]; rfl]
              exact trX (show Tr Cr C1 (.own t) (.own _) from fun b q hb => hρ b q hb) hp hrr
            · cases hj
          · rename_i e3
            obtain ⟨u, h4, h5, h6⟩ := hC0.at_ hj
            exact ⟨u, (hcell _).trans h4, h5, Rep.tr hst (htr _ (by omega)) _ _ h6⟩
        · rename_i hne
          obtain ⟨h3, h4⟩ := hE.at_ hi'
          refine ⟨h3, RepCs.of fun j c' hj => ?_⟩
          obtain ⟨u, h5, h6, h7⟩ := h4.at_ hj
          have hjl : j < sz := by rw [← h3]; exact (List.getElem?_eq_some_iff.1 hj).1
          refine ⟨u, (hcell _).trans h5, h6, Rep.tr hst (htr _ (fun e => hne ?_)) _ _ h7⟩
          have e4 : i' * sz + j = i * sz + k := by omega
          rcases Nat.lt_trichotomy i i' with hlt | heq | hlt
          · have : (i + 1) * sz ≤ i' * sz := Nat.mul_le_mul_right _ hlt
            rw [Nat.add_mul] at this
            omega
          · exact heq
          · have : (i' + 1) * sz ≤ i * sz := Nat.mul_le_mul_right _ hlt
            rw [Nat.add_mul] at this
            omega
      | _ => simp [bkA, bkC] at hx
    | _ => cases rr <;> simp [bkA, bkC] at hx
  | agg cs =>
    cases rr with
    | agg ds =>
      obtain ⟨j, e, sz, els, h1, h2, h3⟩ := bkL_spec (show x ∈ bkL s cs ds from hx)
      obtain ⟨id, ob⟩ := x
      have h3 : ob = .row e sz els := h3
      subst h3
      obtain ⟨vs, rfl, hr⟩ := hr
      obtain ⟨vs', he, hrr⟩ := hrr
      injection he with he
      subst he
      obtain ⟨u, k1, k2⟩ := hr.at_ h1
      obtain ⟨u', k3, k4⟩ := hrr.at_ h2
      rw [k1] at k3
      obtain rfl := Option.some.inj k3
      show Rep C1 true (.own id) (.row e sz els) (C1.m id)
      have hid : id ∈ rrootA (.agg cs) := by
        have : ∀ (cs : List AV) (j : Nat), cs[j]? = some (.ref id) → id ∈ rootL cs := by
          intro cs
          induction cs with
          | nil => intro j h; simp at h
          | cons c cs ih =>
            intro j h
            cases j with
            | zero => obtain rfl : c = .ref id := by simpa using h
                      simp [rootL]
            | succ j =>
              have := ih j (by simpa using h)
              cases c <;> simp [rootL, this]
        exact this cs j h1
      rw [hm id hid, ← show u = m id from k2.2.2.2]
      refine trX (show Tr Cr C1 (.own (t ++ [0 + j])) (.own id) from fun b q hb => ?_) (hp.imp (fun h => h) fun hp => pureCs_at hp h2) k4
      have := hρ b ((0 + j) :: q) (by rw [hb]; simp)
      refine ⟨this.1.trans ?_, this.2⟩
      simp only [Nat.zero_add, rhoA, h1]
    | _ => simp [bkA, bkC] at hx
  | ptr id sz i k =>
    cases rr with
    | bx tt ds =>
      have hob : ∃ b, boxTC (s.σ id) = some b := by
        unfold St.givA at hg
        split at hg
        · rename_i e; cases e
        · rename_i e
          injection e with e1 e2 e3 e4
          subst e1
          obtain ⟨b, hb, _⟩ := bindO_eq hg
          exact ⟨b, hb⟩
        · obtain ⟨x, hx, _⟩ := bindO_eq hg
          simp [St.givC, St.clC, bindO] at hx
      have hik : i = 0 ∧ k = 0 := by
        unfold St.givA at hg
        split at hg
        · rename_i e; cases e
        · rename_i e
          injection e with e1 e2 e3 e4
          exact ⟨e3, e4⟩
        · obtain ⟨x, hx, _⟩ := bindO_eq hg
          simp [St.givC, St.clC, bindO] at hx
      obtain ⟨rfl, rfl⟩ := hik
      obtain ⟨b, hb⟩ := hob
      unfold boxTC at hb
      split at hb
      · rename_i t' cs hob
        obtain ⟨g, arr, h1, h2, h3, h4, h5⟩ := R.obj id _ hob
        have h1 : m id = .pointer (some ⟨g, 0, none⟩) := h1
        obtain ⟨_, _, g', off, h6, rfl⟩ := hr
        rw [show (cx w S F L m s.σ).m id = m id from rfl, h1] at h6
        simp only [hdrAddr, Option.some.injEq, Addr.mk.injEq] at h6
        obtain ⟨rfl, rfl, _⟩ := h6
        obtain ⟨g2, arr2, he, k1, k2, k3, k4⟩ := hrr
        simp only [Nat.zero_mul, Nat.add_zero, Value.pointer.injEq, Option.some.injEq, Addr.mk.injEq] at he
        obtain ⟨rfl, _⟩ := he
        have hw0 := hρ g [0] k1
        have hw1 : C1.L g = some id := by rw [hw0.1]; simp [rhoA]
        have k5 : RepCs C1 true (.own (1000002 :: id)) g 0 0 ds := by
          have htr : Tr Cr C1 (.own (t ++ [1])) (.own (1000002 :: id)) := fun b q hb => by
            have := hρ b (1 :: q) (by rw [hb]; simp)
            exact ⟨this.1.trans (by simp [rhoA]), this.2⟩
          rcases hp with hp | hp
          · exact RepCs.tr hp htr ds hw0.2 (.inr rfl) k4
          · exact RepCs.trP htr ds hp hw0.2 (.inr rfl) k4
        have hx : x ∈ (id, OB.box tt (opnCs (1000002 :: id) 0 ds).1) :: (opnCs (1000002 :: id) 0 ds).2 := hx
        obtain ⟨q1, q2⟩ := opnCs_mem k5 (fun j y hj => by
          rw [hch id _ _ _ g 0 rfl h1 (0 + j)]
          rw [Nat.zero_add] at hj ⊢
          rw [hj]; rfl) (fun z hz => hl z (List.mem_cons_of_mem _ hz)) 0
        rcases List.mem_cons.1 hx with rfl | hx
        · exact ⟨g, arr2, (hm id (by simp [rrootA])).trans h1, hw1, hw0.2.trans k2, by rw [opnCs_length]; exact k3, q1⟩
        · exact q2 x hx
      · cases hb
    | _ => simp [bkA, bkC] at hx
  | any => cases rr <;> simp [bkA, bkC] at hx
  | v => cases rr <;> simp [bkA, bkC] at hx
  | row => cases rr <;> simp [bkA, bkC] at hx
  | rp => cases rr <;> simp [bkA, bkC] at hx
  | tup => cases rr <;> simp [bkA, bkC] at hx
  | bx => cases rr <;> simp [bkA, bkC] at hx
  | ifc => cases rr <;> simp [bkA, bkC] at hx
  | fn => cases rr <;> simp [bkA, bkC] at hx
theorem roots_mem {x : Id} : ∀ {ps : List PA} {as : List AV}, x ∈ s.roots ps as → ∃ (q : Nat) (p c : AV), ps[q]? = some (.mu p) ∧ as[q]? = some c ∧ x ∈ s.rootA c
  | [], _, h => by simp [St.roots] at h
  | .mu _ :: _, [], h => by simp [St.roots] at h
  | .rd _ :: _, [], h => by simp [St.roots] at h
  | .mu p :: ps, a :: as, h => by
    rw [St.roots, List.mem_append] at h
    rcases h with h | h
    · exact ⟨0, p, a, rfl, rfl, h⟩
    · obtain ⟨q, p', c, h1, h2, h3⟩ := roots_mem h
      exact ⟨q + 1, p', c, by simpa using h1, by simpa using h2, h3⟩
  | .rd p :: ps, a :: as, h => by
    rw [St.roots] at h
    obtain ⟨q, p', c, h1, h2, h3⟩ := roots_mem h
    exact ⟨q + 1, p', c, by simpa using h1, by simpa using h2, h3⟩
theorem rroots_of {x : Id} : ∀ {ps : List PA} {as : List AV} {q : Nat} {p c : AV}, ps[q]? = some (.mu p) → as[q]? = some c → x ∈ rrootA c → x ∈ rroots ps as
  | [], _, _, _, _, h, _, _ => by simp at h
  | _ :: _, [], _, _, _, _, h, _ => by simp at h
  | .mu p :: ps, a :: as, 0, _, _, _, h2, h3 => by
    obtain rfl := Option.some.inj h2
    simp [rroots, h3]
  | .rd p :: ps, a :: as, 0, _, _, h1, _, _ => by simp at h1
  | .mu p :: ps, a :: as, q + 1, _, _, h1, h2, h3 => by
    rw [rroots, List.mem_append]
    exact .inr (rroots_of (by simpa using h1) (by simpa using h2) h3)
  | .rd p :: ps, a :: as, q + 1, _, _, h1, h2, h3 => by
    rw [rroots]
    exact rroots_of (by simpa using h1) (by simpa using h2) h3
theorem roots_of {x : Id} : ∀ {ps : List PA} {as : List AV} {q : Nat} {p c : AV}, ps[q]? = some (.mu p) → as[q]? = some c → x ∈ s.rootA c → x ∈ s.roots ps as
  | [], _, _, _, _, h, _, _ => by simp at h
  | _ :: _, [], _, _, _, _, h, _ => by simp at h
  | .mu p :: ps, a :: as, 0, _, _, _, h2, h3 => by
    obtain rfl := Option.some.inj h2
    simp [St.roots, h3]
  | .rd p :: ps, a :: as, 0, _, _, h1, _, _ => by simp at h1
  | .mu p :: ps, a :: as, q + 1, _, _, h1, h2, h3 => by
    rw [St.roots, List.mem_append]
    exact .inr (roots_of (by simpa using h1) (by simpa using h2) h3)
  | .rd p :: ps, a :: as, q + 1, _, _, h1, h2, h3 => by
    rw [St.roots]
    exact roots_of (by simpa using h1) (by simpa using h2) h3
theorem ptrs_of {id : Id} : ∀ {ps : List PA} {as : List AV} {q : Nat} {p : AV} {sz i k : Nat}, ps[q]? = some (.mu p) → as[q]? = some (.ptr id sz i k) → id ∈ ptrs ps as
  | [], _, _, _, _, _, _, h, _ => by simp at h
  | _ :: _, [], _, _, _, _, _, _, h => by simp at h
  | .mu p :: ps, a :: as, 0, _, _, _, _, _, h2 => by
    obtain rfl := Option.some.inj h2
    simp [ptrs]
  | .rd p :: ps, a :: as, 0, _, _, _, _, h1, _ => by simp at h1
  | .mu p :: ps, a :: as, q + 1, _, _, _, _, h1, h2 => by
    have := ptrs_of (ps := ps) (as := as) (q := q) (by simpa using h1) (by simpa using h2)
    cases a <;> simp [ptrs, this]
  | .rd p :: ps, a :: as, q + 1, _, _, _, _, h1, h2 => by
    have := ptrs_of (ps := ps) (as := as) (q := q) (by simpa using h1) (by simpa using h2)
    cases a <;> simp [ptrs, this]
theorem ptrs_mem {id : Id} : ∀ {ps : List PA} {as : List AV}, id ∈ ptrs ps as → ∃ (q : Nat) (p : AV) (sz i k : Nat), ps[q]? = some (.mu p) ∧ as[q]? = some (.ptr id sz i k)
  | [], _, h => by simp [ptrs] at h
  | .mu _ :: _, [], h => by simp [ptrs] at h
  | .rd _ :: _, [], h => by simp [ptrs] at h
  | .mu p :: ps, a :: as, h => by
    have tail : id ∈ ptrs ps as → ∃ (q : Nat) (p' : AV) (sz i k : Nat), (PA.mu p :: ps)[q]? = some (.mu p') ∧ (a :: as)[q]? = some (.ptr id sz i k) := fun h => by
      obtain ⟨q, p', sz, i, k, h1, h2⟩ := ptrs_mem h
      exact ⟨q + 1, p', sz, i, k, by simpa using h1, by simpa using h2⟩
    cases a with
    | ptr id' sz i k =>
      simp only [ptrs, List.mem_cons] at h
      rcases h with rfl | h
      · exact ⟨0, p, sz, i, k, rfl, rfl⟩
      · exact tail h
    | _ => exact tail (by simpa [ptrs] using h)
  | .rd p :: ps, a :: as, h => by
    obtain ⟨q, p', sz, i, k, h1, h2⟩ := ptrs_mem (show id ∈ ptrs ps as by cases a <;> simpa [ptrs] using h)
    exact ⟨q + 1, p', sz, i, k, by simpa using h1, by simpa using h2⟩
theorem backs_mem {x : Id × OB} : ∀ {ps : List PA} {as rs : List AV}, x ∈ s.backs ps as rs → ∃ (q : Nat) (p c r : AV), ps[q]? = some (.mu p) ∧ as[q]? = some c ∧ rs[q]? = some r ∧ x ∈ bkA s c r
  | [], _, _, h => by simp [St.backs] at h
  | .mu _ :: _, [], _, h => by simp [St.backs] at h
  | .rd _ :: _, [], _, h => by simp [St.backs] at h
  | .mu _ :: _, _ :: _, [], h => by simp [St.backs] at h
  | .rd _ :: _, _ :: _, [], h => by simp [St.backs] at h
  | .mu p :: ps, a :: as, r :: rs, h => by
    rw [St.backs, List.mem_append] at h
    rcases h with h | h
    · exact ⟨0, p, a, r, rfl, rfl, rfl, h⟩
    · obtain ⟨q, p', c, r', h1, h2, h3, h4⟩ := backs_mem h
      exact ⟨q + 1, p', c, r', by simpa using h1, by simpa using h2, by simpa using h3, h4⟩
  | .rd p :: ps, a :: as, r :: rs, h => by
    rw [St.backs] at h
    obtain ⟨q, p', c, r', h1, h2, h3, h4⟩ := backs_mem h
    exact ⟨q + 1, p', c, r', by simpa using h1, by simpa using h2, by simpa using h3, h4⟩
theorem backs_of {x : Id × OB} : ∀ {ps : List PA} {as rs : List AV} {q : Nat} {p c r : AV}, ps[q]? = some (.mu p) → as[q]? = some c → rs[q]? = some r → x ∈ bkA s c r → x ∈ s.backs ps as rs
  | [], _, _, _, _, _, _, h, _, _, _ => by simp at h
  | _ :: _, [], _, _, _, _, _, _, h, _, _ => by simp at h
  | _ :: _, _ :: _, [], _, _, _, _, _, _, h, _ => by simp at h
  | .mu p :: ps, a :: as, r :: rs, 0, _, _, _, _, h2, h3, h4 => by
    obtain rfl := Option.some.inj h2
    obtain rfl := Option.some.inj h3
    simp [St.backs, h4]
  | .rd p :: ps, a :: as, r :: rs, 0, _, _, _, h1, _, _, _ => by simp at h1
  | .mu p :: ps, a :: as, r :: rs, q + 1, _, _, _, h1, h2, h3, h4 => by
    rw [St.backs, List.mem_append]
    exact .inr (backs_of (by simpa using h1) (by simpa using h2) (by simpa using h3) h4)
  | .rd p :: ps, a :: as, r :: rs, q + 1, _, _, _, h1, h2, h3, h4 => by
    rw [St.backs]
    exact backs_of (by simpa using h1) (by simpa using h2) (by simpa using h3) h4
theorem dead_of {x : Id} : ∀ {ps : List PA} {as rs : List AV} {q : Nat} {p c r : AV}, ps[q]? = some (.mu p) → as[q]? = some c → rs[q]? = some r → x ∈ s.deadA c r → x ∈ s.dead ps as rs
  | [], _, _, _, _, _, _, h, _, _, _ => by simp at h
  | _ :: _, [], _, _, _, _, _, _, h, _, _ => by simp at h
  | _ :: _, _ :: _, [], _, _, _, _, _, _, h, _ => by simp at h
  | .mu p :: ps, a :: as, r :: rs, 0, _, _, _, _, h2, h3, h4 => by
    obtain rfl := Option.some.inj h2
    obtain rfl := Option.some.inj h3
    simp [St.dead, h4]
  | .rd p :: ps, a :: as, r :: rs, 0, _, _, _, h1, _, _, _ => by simp at h1
  | .mu p :: ps, a :: as, r :: rs, q + 1, _, _, _, h1, h2, h3, h4 => by
    rw [St.dead, List.mem_append]
    exact .inr (dead_of (by simpa using h1) (by simpa using h2) (by simpa using h3) h4)
  | .rd p :: ps, a :: as, r :: rs, q + 1, _, _, _, h1, h2, h3, h4 => by
    rw [St.dead]
    exact dead_of (by simpa using h1) (by simpa using h2) (by simpa using h3) h4
theorem deadL_sub {x : Id} : ∀ {cs ds : List AV}, x ∈ deadL cs ds → x ∈ rootL cs
  | [], [], h => by simp [deadL, rootL] at h
  | [], _ :: _, h => by simp [deadL] at h
  | c :: cs, [], h => by cases c <;> simpa [deadL] using h
  | c :: cs, d :: ds, h => by
    unfold deadL at h
    split at h
    · rename_i id cs' e sz els ds' e1 e2
      injection e1 with e1 e1'; injection e2 with e2 e2'
      subst e1; subst e1'; subst e2'
      simp [rootL, deadL_sub h]
    · rename_i id cs' d' ds' hno e1 e2
      injection e1 with e1 e1'; injection e2 with e2 e2'
      subst e1; subst e1'; subst e2'
      rcases List.mem_cons.1 h with rfl | h
      · simp [rootL]
      · simp [rootL, deadL_sub h]
    · rename_i e1 e2
      injection e1 with e1 e1'; injection e2 with e2 e2'
      subst e1'; subst e2'
      have := deadL_sub h
      cases c <;> simp [rootL, this]
    · rename_i e1 e2; cases e2
    · rename_i e1 e2; cases e1
theorem deadA_sub {x : Id} {c r : AV} (h : x ∈ s.deadA c r) : x ∈ s.rootA c := by
  cases c with
  | agg cs => cases r <;> first | exact deadL_sub h | exact h
  | ptr id sz i k => cases r <;> first | exact h | exact List.mem_cons_of_mem _ h
  | ref id => cases r <;> first | exact h | (simp [St.deadA, deadC] at h)
  | rd o e sz els => cases o <;> cases r <;> first | exact h | (simp [St.deadA, deadC] at h) | (simp [St.deadA, deadC, rootC] at h)
  | _ => cases r <;> simp [St.deadA, deadC, rootC] at h
theorem dead_sub {x : Id} : ∀ {ps : List PA} {as rs : List AV}, x ∈ s.dead ps as rs → x ∈ s.roots ps as
  | [], _, _, h => by simp [St.dead] at h
  | .mu _ :: _, [], _, h => by simp [St.dead] at h
  | .rd _ :: _, [], _, h => by simp [St.dead] at h
  | .mu p :: ps, a :: as, [], h => by
    rw [St.dead, List.mem_append] at h
    rw [St.roots, List.mem_append]
    exact h.imp (fun h => h) dead_sub
  | .rd p :: ps, a :: as, [], h => by rw [St.dead] at h; rw [St.roots]; exact dead_sub h
  | .mu p :: ps, a :: as, r :: rs, h => by
    rw [St.dead, List.mem_append] at h
    rw [St.roots, List.mem_append]
    exact h.imp deadA_sub dead_sub
  | .rd p :: ps, a :: as, r :: rs, h => by rw [St.dead] at h; rw [St.roots]; exact dead_sub h
theorem rootL_back {x : Id} : ∀ {cs ds : List AV}, x ∈ rootL cs → x ∈ deadL cs ds ∨ ∃ ob, (x, ob) ∈ bkL s cs ds
  | [], _, h => by simp [rootL] at h
  | c :: cs, [], h => .inl (by cases c <;> simpa [deadL] using h)
  | c :: cs, d :: ds, h => by
    have tail : x ∈ rootL cs → x ∈ deadL cs ds ∨ ∃ ob, (x, ob) ∈ bkL s cs ds := rootL_back
    cases c with
    | ref id =>
      simp only [rootL, List.mem_cons] at h
      cases d with
      | row e sz els =>
        rcases h with rfl | h
        · exact .inr ⟨.row e sz els, by simp [bkL]⟩
        · rcases tail h with h | ⟨ob, h⟩
          · exact .inl (by simpa [deadL] using h)
          · exact .inr ⟨ob, by simp [bkL, h]⟩
      | _ =>
        rcases h with rfl | h
        · exact .inl (by simp [deadL])
        · rcases tail h with h | ⟨ob, h⟩
          · exact .inl (by simp [deadL, h])
          · exact .inr ⟨ob, by simpa [bkL] using h⟩
    | _ =>
      rcases tail (by simpa [rootL] using h) with h | ⟨ob, h⟩
      · exact .inl (by simpa [deadL] using h)
      · exact .inr ⟨ob, by simpa [bkL] using h⟩
theorem rootA_back {x : Id} {c r : AV} {ts : List (Option (Nat × Nat))} {v : AV} (hg : s.givA ts c = some v) (h : x ∈ s.rootA c) : x ∈ s.deadA c r ∨ (x ∈ rrootA c ∧ ∃ ob, (x, ob) ∈ bkA s c r) := by
  cases c with
  | agg cs =>
    cases r with
    | agg ds =>
      rcases rootL_back (s := s) (ds := ds) (show x ∈ rootL cs from h) with h1 | ⟨ob, h1⟩
      · exact .inl h1
      · exact .inr ⟨h, ob, h1⟩
    | _ => exact .inl h
  | ptr id sz i k =>
    cases r with
    | bx t ds =>
      have h : x ∈ id :: rootB (s.σ id) := h
      rcases List.mem_cons.1 h with rfl | h
      · exact .inr ⟨by simp [rrootA], _, List.mem_cons_self ..⟩
      · exact .inl h
    | _ => exact .inl h
  | ref id =>
    have h : x ∈ [id] := h
    simp only [List.mem_singleton] at h
    subst h
    cases r with
    | row e sz els => exact .inr ⟨by simp [rrootA, rootC], .row e sz els, by simp [bkA, bkC]⟩
    | _ => exact .inl (by simp [St.deadA, deadC, rootC])
  | rd o e sz els =>
    cases o with
    | «at» id z i k =>
      have h : x ∈ [id] := h
      simp only [List.mem_singleton] at h
      subst h
      cases r with
      | row e' sz' els' =>
        obtain ⟨x0, hx0, _⟩ := bindO_eq (show bindO _ _ = _ from hg)
        obtain ⟨e1, xs, cs, hob, _⟩ := rowCell_some (show rowCell z i k (s.σ x) = some x0 from hx0)
        exact .inr ⟨by simp [rrootA, rootC], .row e1 z (setCellAt xs i k (.row e' sz' els')), by simp [bkA, bkC, backAt, hob]⟩
      | _ => exact .inl (by simp [St.deadA, deadC, rootC])
    | _ => simp [St.rootA, rootC] at h
  | _ => simp [St.rootA, rootC] at h
theorem bkA_key {x : Id × OB} {c r : AV} (h : x ∈ bkA s c r) : x.1 ∈ rrootA c ∨ ∃ id sz i k j, c = .ptr id sz i k ∧ x.1 = 1000002 :: id ++ [j] := by
  cases c with
  | agg cs =>
    cases r with
    | agg ds =>
      obtain ⟨j, e, sz, els, h1, _, _⟩ := bkL_spec (show x ∈ bkL s cs ds from h)
      left
      have : ∀ (cs : List AV) (j : Nat), cs[j]? = some (.ref x.1) → x.1 ∈ rootL cs := by
        intro cs
        induction cs with
        | nil => intro j h; simp at h
        | cons c cs ih =>
          intro j h
          cases j with
          | zero => obtain rfl : c = .ref x.1 := by simpa using h
                    simp [rootL]
          | succ j =>
            have := ih j (by simpa using h)
            cases c <;> simp [rootL, this]
      exact this cs j h1
    | _ => simp [bkA, bkC] at h
  | ptr id sz i k =>
    cases r with
    | bx t ds =>
      have h : x ∈ (id, OB.box t (opnCs (1000002 :: id) 0 ds).1) :: (opnCs (1000002 :: id) 0 ds).2 := h
      rcases List.mem_cons.1 h with rfl | h
      · exact .inl (by simp [rrootA])
      · obtain ⟨j, _, hj⟩ := opnCs_key x h
        exact .inr ⟨id, sz, i, k, j, rfl, hj⟩
    | _ => simp [bkA, bkC] at h
  | ref id =>
    cases r with
    | row e sz els =>
      have h : x ∈ [(id, OB.row e sz els)] := h
      simp only [List.mem_singleton] at h
      subst h
      exact .inl (by simp [rrootA, rootC])
    | _ => simp [bkA, bkC] at h
  | rd o e sz els =>
    cases o with
    | «at» id z i k =>
      cases r with
      | row e' sz' els' =>
        simp only [bkA, bkC, backAt] at h
        split at h
        · simp only [List.mem_singleton] at h
          subst h
          exact .inl (by simp [rrootA, rootC])
        · simp at h
      | _ => simp [bkA, bkC] at h
    | _ => cases r <;> simp [bkA, bkC] at h
  | any => cases r <;> simp [bkA, bkC] at h
  | v => cases r <;> simp [bkA, bkC] at h
  | row => cases r <;> simp [bkA, bkC] at h
  | rp => cases r <;> simp [bkA, bkC] at h
  | tup => cases r <;> simp [bkA, bkC] at h
  | bx => cases r <;> simp [bkA, bkC] at h
  | ifc => cases r <;> simp [bkA, bkC] at h
  | fn => cases r <;> simp [bkA, bkC] at h
theorem rootL_live {C : Cx} {x : Id} : ∀ {cs : List AV} {vs : List Value} {q : Nat}, RepVs C false (.read .ent) q cs vs → x ∈ rootL cs → C.live x
  | [], _, _, _, h => by simp [rootL] at h
  | c :: cs, vs, q, hr, h => by
    obtain ⟨y, ys, rfl, h1, h2⟩ := hr
    cases c with
    | ref id =>
      simp only [rootL, List.mem_cons] at h
      rcases h with rfl | h
      · exact h1.2.2.1
      · exact rootL_live h2 h
    | _ => exact rootL_live h2 (by simpa [rootL] using h)
theorem rootLm_live {C : Cx} {x : Id} {b : Nat} : ∀ {cs : List AV} {off q : Nat}, RepCs C false (.read .ent) b off q cs → x ∈ rootL cs → C.live x
  | [], _, _, _, h => by simp [rootL] at h
  | c :: cs, off, q, hr, h => by
    obtain ⟨⟨y, _, _, h1⟩, h2⟩ := hr
    cases c with
    | ref id =>
      simp only [rootL, List.mem_cons] at h
      rcases h with rfl | h
      · exact h1.2.2.1
      · exact rootLm_live h2 h
    | _ => exact rootLm_live h2 (by simpa [rootL] using h)
theorem rootA_live (R : RelC W0 S F n L m s a w) {c : AV} {y : Value} (hr : Rep (cx w S F L m s.σ) false (.read .ent) c y) {x : Id} (h : x ∈ s.rootA c) : (s.σ x).isSome = true := by
  cases c with
  | agg cs =>
    obtain ⟨vs, rfl, hr⟩ := hr
    exact rootL_live hr (show x ∈ rootL cs from h)
  | ptr id sz i k =>
    have h : x ∈ id :: rootB (s.σ id) := h
    rcases List.mem_cons.1 h with rfl | h
    · exact hr.2.1
    · unfold rootB at h
      split at h
      · rename_i t cs hob
        obtain ⟨g, arr, _, _, _, _, h5⟩ := R.obj id _ hob
        exact rootLm_live h5 h
      · simp at h
  | ref id =>
    have h : x ∈ [id] := h
    simp only [List.mem_singleton] at h
    subst h
    exact hr.2.2.1
  | rd o e sz els =>
    cases o with
    | «at» id z i k =>
      have h : x ∈ [id] := h
      simp only [List.mem_singleton] at h
      subst h
      exact hr.2.1.1
    | _ => simp [St.rootA, rootC] at h
  | _ => simp [St.rootA, rootC] at h
theorem parg_giv {lend : Bool} {J : List Id} : ∀ {ps : List PA} {ts : List TypeId} {as : List AV} {out : List PA}, pargE P s lend J ps ts as = some out → ps.length = as.length ∧ ∀ {q : Nat} {p c : AV}, ps[q]? = some (.mu p) → as[q]? = some c → ∃ ts v, s.givA ts c = some v
  | [], [], [], out, h => ⟨rfl, fun h => by simp at h⟩
  | [], [], _ :: _, out, h => by cases h
  | [], _ :: _, _, out, h => by simp [pargE] at h
  | .rd _ :: _, [], _, out, h => by simp [pargE] at h
  | .mu _ :: _, [], _, out, h => by simp [pargE] at h
  | .rd _ :: _, _ :: _, [], out, h => by cases h
  | .mu _ :: _, _ :: _, [], out, h => by cases h
  | .rd p :: ps, t :: ts, x :: xs, out, h => by
    simp only [pargE] at h
    obtain ⟨c, hc, h⟩ := bindO_eq h
    obtain ⟨cs', hcs, h⟩ := bindO_eq h
    obtain ⟨h1, h2⟩ := parg_giv hcs
    refine ⟨by simp [h1], fun {q} _ _ hq hc => ?_⟩
    cases q with
    | zero => simp at hq
    | succ q => exact h2 (by simpa using hq) (by simpa using hc)
  | .mu p :: ps, t :: ts, x :: xs, out, h => by
    simp only [pargE] at h
    obtain ⟨c, hc, h⟩ := bindO_eq h
    obtain ⟨cs', hcs, h⟩ := bindO_eq h
    obtain ⟨h1, h2⟩ := parg_giv hcs
    refine ⟨by simp [h1], fun {q} _ _ hq hc' => ?_⟩
    cases q with
    | zero =>
      obtain rfl := Option.some.inj hc'
      exact ⟨_, _, hc⟩
    | succ q => exact h2 (by simpa using hq) (by simpa using hc')
theorem apartB_mem {I : List Id} : ∀ {J : List Id}, apartB I J = true → ∀ j ∈ J, hit I j = false
  | [], _, j, hj => by simp at hj
  | k :: J, h, j, hj => by
    simp only [apartB, Bool.and_eq_true, Bool.not_eq_true'] at h
    rcases List.mem_cons.1 hj with rfl | hj
    · exact h.1
    · exact apartB_mem h.2 j hj
theorem hit_sub {I J : List Id} (h : ∀ x ∈ I, x ∈ J) {y : Id} (hy : hit J y = false) : hit I y = false := by
  cases hh : hit I y with
  | false => rfl
  | true =>
    obtain ⟨z, hz, hc⟩ := List.any_eq_true.1 hh
    rw [hit_mem (h z hz) hy] at hc; cases hc
end
end Go.Ev
