/- The evaluator, part 10: append, slice literals. -/
import Derived.Test.YtijmbcnhkdhkeaaEvi
import Derived.Lib.AppendZeros
import Derived.Deep.Upon
set_option linter.unusedVariables false
set_option linter.unusedSimpArgs false
namespace Go.Ev
open Go Go.RowKit
section
variable {P : Program} {H : Nat → Nat} {W0 : Bs} {S F : Nat → Prop} {n : Nat} {L : Nat → Option Id} {m : Id → Value} {s : St} {a : Act} {w : World} {K : St → Prop}

/-- What is appended may lie in object id's block, behind what lies there. -/
def Lands (W0 : Bs) (S F : Nat → Prop) (L : Nat → Option Id) (w : World) (id : Id) (J : List Id) (sz : Nat) (els : List (List AV)) (news : List Value) : Prop :=
  ∀ qt : Nat, ∃ ρ : Id → Id, (∀ y r, hit J y = false → ρ (y ++ r) = y ++ r) ∧ (∀ k r, ρ (id ++ k :: r) = id ++ k :: r) ∧
    ∀ (w' : World) (g : Nat) (m' : Id → Value) (σ' : Id → Option OB) (off' : Nat), Wrote w w' g → W0.ok g → (∀ p, L g = some p → p = id) →
      (∀ j v, news[j]? = some v → w'.cell? ⟨g, off' + j, none⟩ = some v) → RepEls (cx w' S F (newL L ρ g id) m' σ') (.own id) g off' qt sz els

theorem getElem?_of_lt {α : Type} {l : List α} {j : Nat} (h : j < l.length) : ∃ v, l[j]? = some v := ⟨_, List.getElem?_eq_getElem h⟩
theorem src_of {C : Cx} (hCw : C.w = w) {md : Md} {sz : Nat} {els : List (List AV)} {A : Option Addr} {c : Nat} {T e : TypeId} (hk : P.underlying T = some (.slice e))
    (h : els = [] ∨ ∃ b off q, A = some ⟨b, off, none⟩ ∧ RepEls C md b off q sz els) : ∃ news, Src P sz T (.slice A els.length c) els.length news w ∧ news.length = els.length * sz ∧
      (els = [] ∨ ∃ b off q, RepEls C md b off q sz els ∧ ∀ j v, news[j]? = some v → C.w.cell? ⟨b, off + j, none⟩ = some v) := by
  rcases h with rfl | ⟨b, off, q, rfl, hE⟩
  · refine ⟨[], ?_, by simp, .inl rfl⟩
    cases A with
    | none => exact Src.ofNil w hk c
    | some a => exact Src.ofSlice w hk a 0 c [] (by simp) (fun j u h => by simp at h) (fun u h => by simp at h)
  · obtain ⟨vs, h1, h2⟩ := hE.cells
    exact ⟨vs, Src.ofSlice w hk ⟨b, off, none⟩ els.length c vs h1 (fun j u hj => by rw [add_none, ← hCw]; exact (h2 j u hj).1) (fun u hu => by
      obtain ⟨j, hj⟩ := List.mem_iff_getElem?.1 hu
      exact one_iff.1 (h2 j u hj).2), h1, .inr ⟨b, off, q, hE, fun j v hj => (h2 j v hj).1⟩⟩
mutual
theorem rep_asrd_own {C C' : Cx} (hs : Stays C C') {o : Org} (ho : isObj o = false) {p : Id} : ∀ {c : AV} {y : Value}, Rep C true (.read o) c y → Rep C' true (.own p) (c.asrw o) y
  | .any, _, _ => trivial
  | .v u, _, h => h
  | .row e sz els, _, h => by
    have hb : o.base = o := by cases o <;> first | rfl | cases ho
    have h' : Rep C' true (.read o) (.row e sz els) _ := Rep.tr hs (hs.org o ho) (.row e sz els) _ h
    show Rep C' true (.own p) (.rd o.base e sz els) _
    rw [hb]
    exact ⟨by simp [ho], ⟨h'.1, Cx.hdr_of ho⟩, h'.2⟩
  | .rd o' e sz els, _, h => by
    have h0 := h.1
    have ho' : isObj o' = false := by simpa using h0
    have := Rep.tr (md' := .read o) hs (hs.org o ho) (.rd o' e sz els) _ h
    exact ⟨by simp [ho'], this.2⟩
  | .rp .., _, h => absurd h.1 (by simp)
  | .ref .., _, h => absurd h.1 (by simp)
  | .ptr .., _, h => absurd h.1 (by simp)
  | .bx .., _, _ => trivial
  | .agg cs, _, h => by
    obtain ⟨vs, rfl, h⟩ := h
    exact ⟨vs, rfl, repVs_asrd_own hs ho h⟩
  | .tup cs, _, h => by
    obtain ⟨vs, rfl, h⟩ := h
    exact ⟨vs, rfl, repVs_asrd_own hs ho h⟩
  | .ifc t a, _, h => by
    obtain ⟨v, rfl, h⟩ := h
    exact ⟨v, rfl, rep_asrd_own hs ho h⟩
  | .fn f cs, _, h => by
    obtain ⟨vs, rfl, h⟩ := h
    exact ⟨vs, rfl, repVs_asrd_own hs ho h⟩
theorem repVs_asrd_own {C C' : Cx} (hs : Stays C C') {o : Org} (ho : isObj o = false) {p : Id} : ∀ {cs : List AV} {vs : List Value} {q q' : Nat}, RepVs C true (.read o) q cs vs → RepVs C' true (.own p) q' (asrwL o cs) vs
  | [], _, _, _, h => h
  | c :: cs, _, _, q', h => by
    obtain ⟨y, ys, rfl, h1, h2⟩ := h
    exact ⟨y, ys, rfl, rep_asrd_own hs ho h1, repVs_asrd_own hs ho h2⟩
end
theorem lands_read (R : RelC W0 S F n L m s a w) {id : Id} {J : List Id} {o : Org} (ho : isObj o = false) {sz : Nat} {els : List (List AV)} {news : List Value} (hl : news.length = els.length * sz)
    (h : els = [] ∨ ∃ b off q, RepEls (cx w S F L m s.σ) (.read o) b off q sz els ∧ ∀ j v, news[j]? = some v → w.cell? ⟨b, off + j, none⟩ = some v) : Lands W0 S F L w id J sz (els.map (List.map (AV.asrw o))) news := fun qt => by
  refine ⟨fun p => p, fun _ _ _ => rfl, fun _ _ => rfl, fun w' g m' σ' off' hw hg0 hg hc => ?_⟩
  rcases h with rfl | ⟨b, off, q, hE, hcell⟩
  · trivial
  · refine RepEls.conv _ hE (fun j hj => ?_) (fun cs _ c _ k y hy hr => rep_asrd_own (Stays.wrote R hw hg0 _ _ _) ho hr)
    obtain ⟨v, hv⟩ := getElem?_of_lt (by rw [hl]; exact hj)
    exact (hc j v hv).trans (hcell j v hv).symm
theorem lands_flat {C : Cx} (hCw : C.w = w) {md : Md} {id : Id} {J : List Id} {sz : Nat} {els : List (List AV)} {news : List Value} (hl : news.length = els.length * sz) (hf : flatE els)
    (h : els = [] ∨ ∃ b off q, RepEls C md b off q sz els ∧ ∀ j v, news[j]? = some v → C.w.cell? ⟨b, off + j, none⟩ = some v) : Lands W0 S F L w id J sz els news := fun qt => by
  refine ⟨fun p => p, fun _ _ _ => rfl, fun _ _ => rfl, fun w' g m' σ' off' hw hg0 hg hc => ?_⟩
  rcases h with rfl | ⟨b, off, q, hE, hcell⟩
  · trivial
  · have := RepEls.conv (C' := cx w' S F (newL L (fun p => p) g id) m' σ') (md' := .own id) (b' := g) (off' := off') (q' := qt) (fun x => x) hE (fun j hj => by
      obtain ⟨v, hv⟩ := getElem?_of_lt (l := news) (by rw [hl]; exact hj)
      exact (hc j v hv).trans (hcell j v hv).symm) (fun cs hcs c hc k y hy hr => by
      obtain ⟨u, rfl⟩ := hf cs hcs c hc
      exact hr)
    simpa using this
def shiftP (i : Id) (qs : Nat) (t : Id) (qt : Nat) (p : Id) : Id :=
  if i.isPrefixOf p then match p.drop i.length with | [] => p | k :: r => t ++ (qt + (k - qs)) :: r else p
theorem lands_moved (R : RelC W0 S F n L m s a w) {id i : Id} {J : List Id} (hi : i ∈ J) (hc : cmp i id = false) {sz : Nat} {els : List (List AV)} {news : List Value} (hl : news.length = els.length * sz)
    (h : els = [] ∨ ∃ b off q, RepEls (cx w S F L m s.σ) (.own i) b off q sz els ∧ ∀ j v, news[j]? = some v → w.cell? ⟨b, off + j, none⟩ = some v) : Lands W0 S F L w id J sz els news := fun qt => by
  have hout : ∀ q y r, cmp i y = false → shiftP i q id qt (y ++ r) = y ++ r := fun q y r hy => by
    have h1 : i.isPrefixOf (y ++ r) = false := by
      cases hp : i.isPrefixOf (y ++ r) with
      | false => rfl
      | true =>
        obtain ⟨z, hz⟩ := List.isPrefixOf_iff_prefix.1 hp
        have := cmp_of_append hz
        rw [hy] at this; cases this
    rw [shiftP, h1]; rfl
  rcases h with rfl | ⟨b, off, q, hE, hcell⟩
  · exact ⟨fun p => p, fun _ _ _ => rfl, fun _ _ => rfl, fun _ _ _ _ _ _ _ _ _ => trivial⟩
  · refine ⟨shiftP i q id qt, fun y r hy => hout q y r (hit_mem hi hy), fun k r => hout q id (k :: r) hc, fun w' g m' σ' off' hw hg0 hg hcc => ?_⟩
    have := RepEls.conv (C' := cx w' S F (newL L (shiftP i q id qt) g id) m' σ') (md' := .own id) (b' := g) (off' := off') (q' := qt) (fun x => x) hE (fun j hj => by
      obtain ⟨v, hv⟩ := getElem?_of_lt (l := news) (by rw [hl]; exact hj)
      exact (hcc j v hv).trans (hcell j v hv).symm) (fun cs hcs c hc' k y hy hr => by
      refine Rep.tr (Stays.wrote R hw hg0 _ _ _) (show Tr _ _ (.own (i ++ [q + k])) (.own (id ++ [qt + k])) from tr_moved R hw hg (fun r => ?_) (fun r e => ?_)) _ _ hr
      · rw [shiftP, List.append_assoc, if_pos (List.isPrefixOf_iff_prefix.2 (List.prefix_append _ _))]
        simp [show q + k - q = k by omega]
      · have : cmp i id = true := cmp_of_append (p := i) (r := [q + k] ++ r) (q := id) (r' := []) (by rw [← List.append_assoc, ← e]; simp)
        rw [hc] at this; cases this)
    simpa using this

theorem e_append {o : Oper} {x y : Operand} {T T' e : TypeId} (ho : o.op = .call ⟨.builtin .append, ⟨[x, y]⟩, ⟨[T, T']⟩⟩) (hd : dOk n o.dst) (R : RelC W0 S F n L m s a w) {d : Nat} (hdst : o.dst = some d) {sz by_ : Nat} (ht : elTy P T = some (e, sz, by_))
    {z : List AV} (hz : zeroC P e = some z) {id : Id} {J : List Id} (hid : id ∈ J) {xs els : List (List AV)} (hbase : Rep (cx w S F L m s.σ) true (.own id) (.row e sz xs) (a.eval x)) {nn : Nat} {news : List Value}
    (hsrc : Src P sz T' (a.eval y) nn news w) (hln : els.length = nn) (hland : Lands W0 S F L w id J sz els news) (hby : (xs.length + nn) * by_ ≤ 140737488355328) (hpos : 0 < by_)
    (hK : K (((s.chg J J).obj id (.row e sz (xs ++ els))).put (some d) (.ref id))) : ES false P W0 S F n K o a w := by
  obtain ⟨i, hu, hi, hsz, hbb⟩ := elTy_run ht
  obtain ⟨i', v, hi', hv, hvsz, _, _⟩ := zeroC_run hz
  rw [hi] at hi'
  obtain rfl := Option.some.inj hi'
  subst hsz; subst hbb
  obtain ⟨A, c, hA, hR⟩ := hbase
  have hbig : xs.length + nn ≤ 140737488355328 := by
    have : (xs.length + nn) * 1 ≤ (xs.length + nn) * i.bytes := Nat.mul_le_mul_left _ hpos
    omega
  have e0 : (execOp a.eval o).run P w = ((Builtin.append_ #[T, T'] o.type #[a.eval x, a.eval y]).run P w).andThen fun v w => .ok (.value v) w := by
    simp [execOp, ho, resolve, invoke, builtin]
  -- what is left to say, once a block is written
  have fin : ∀ (w' : World) (g : Nat) (hdr : Value) (ρ : Id → Id), (Builtin.append_ #[T, T'] o.type #[a.eval x, a.eval y]).run P w = .ok hdr w' → Wrote w w' g → W0.ok g → (∀ p, L g = some p → p = id) → (∀ y r, hit J y = false → ρ (y ++ r) = y ++ r) → one hdr →
      (∀ σ', Stays (cx w S F L m s.σ) (cx w' S F (newL L ρ g id) (newM m id hdr) σ') → RepOb (cx w' S F (newL L ρ g id) (newM m id hdr) σ') id (.row e i.size (xs ++ els))) → ES false P W0 S F n K o a w := fun w' g hdr ρ hrun hw hg0 hg hρ h1 hob => by
    have kp := keep_wrote R (I := J) (J := J) (id := id) (ob := .row e i.size (xs ++ els)) hw (fun _ h => h) hid hρ hg hg0 (hdr := hdr) (fun y h1 _ h2 => by rw [h1] at h2; cases h2)
    have R' := R.wrote hw hid hg0 kp (hob _ kp.st)
    have e1 : ((s.chg J J).obj id (.row e i.size (xs ++ els))).σ id = some (.row e i.size (xs ++ els)) := by show updS _ _ _ _ = _; simp [updS, sel]
    refine ⟨hdr, w', _, .inl (by rw [e0, hrun]; rfl), ⟨_, _, R'.put hd (x := .ref id) ⟨rfl, h1, RelC.live e1, (if_pos rfl).symm⟩⟩, by rw [hdst]; exact hK, fun h => by cases h⟩
  have old : ∀ (w' : World) (g g' off off' q : Nat) (m' : Id → Value) (σ' : Id → Option OB) (ρ : Id → Id), Wrote w w' g' → W0.ok g' → (∀ p, L g' = some p → p = id) → (∀ k r, ρ (id ++ k :: r) = id ++ k :: r) → RepEls (cx w S F L m s.σ) (.own id) g off q i.size xs →
      (∀ j, j < xs.length * i.size → w'.cell? ⟨g', off' + j, none⟩ = w.cell? ⟨g, off + j, none⟩) → RepEls (cx w' S F (newL L ρ g' id) m' σ') (.own id) g' off' q i.size xs := fun w' g g' off off' q m' σ' ρ hw hg0 hg hρ hE hc => by
    have := RepEls.conv (C' := cx w' S F (newL L ρ g' id) m' σ') (md' := .own id) (b' := g') (off' := off') (q' := q) (fun x => x) hE hc (fun cs _ c _ k y _ hr =>
      Rep.tr (Stays.wrote R hw hg0 _ _ _) (show Tr _ _ (.own (id ++ [q + k])) (.own (id ++ [q + k])) from tr_moved R hw hg (fun r => by rw [List.append_assoc]; exact hρ _ _) (fun r e => by have := congrArg List.length e; simp at this)) _ _ hr)
    simpa using this
  by_cases hroom : xs.length + nn ≤ c
  · rcases hR with ⟨rfl, rfl, rfl⟩ | ⟨g, off, arr, fr, q, rfl, hL, hh, h8, h9, h10, h11, hE⟩
    · -- nothing
      have hn0 : nn = 0 := by simp at hroom; exact hroom
      subst hn0
      have hels : els = [] := List.eq_nil_of_length_eq_zero hln
      subst hels
      have hnews : news = [] := List.eq_nil_of_length_eq_zero (by rw [hsrc.newsLen]; simp)
      subst hnews
      have hrun := run_append_nothing (P := P) w T T' o.type e i hu hi none 0 0 (Nat.le_refl _) (a.eval y) hsrc
      have hA' : a.eval x = .slice none 0 0 := hA
      have kp : Keep (cx w S F L m s.σ) (cx w S F L (newM m id (.slice none 0 0)) (updS (killS s.σ J J) id (.row e i.size ([] ++ [])))) J J := by
        refine ⟨⟨fun _ h => ⟨h, rfl⟩, fun _ h => ⟨h, rfl⟩⟩, fun _ h => h, fun y hy hl => ?_, fun y hy hl b q hb => ⟨hb, rfl⟩⟩
        have hne : y ≠ id := fun e => by subst e; rw [hit_self hid] at hy; cases hy
        refine ⟨?_, if_neg hne⟩
        show (updS _ _ _ y).isSome = true
        have e1 : (y == id) = false := by simpa using hne
        unfold updS
        rw [e1]
        exact killS_isSome.2 ⟨hy, hl⟩
      have hob : RepOb (cx w S F L (newM m id (.slice none 0 0)) (updS (killS s.σ J J) id (.row e i.size ([] ++ [])))) id (.row e i.size ([] ++ [])) :=
        ⟨none, 0, if_pos rfl, .inl ⟨rfl, rfl, rfl⟩⟩
      have R' := R.upd1 hid kp hob R.lab R.below
      have e1 : ((s.chg J J).obj id (.row e i.size ([] ++ []))).σ id = some (.row e i.size ([] ++ [])) := by show updS _ _ _ _ = _; simp [updS, sel]
      refine ⟨.slice none 0 0, w, _, .inl (by rw [e0, hA', hrun]; rfl), ⟨_, _, R'.put hd (x := .ref id) ⟨rfl, trivial, RelC.live e1, (if_pos rfl).symm⟩⟩, by rw [hdst]; exact hK, fun h => by cases h⟩
    · have hL' : L g = some id := hL
      have hh' : w.heap[g]? = some (.cells arr e fr) := hh
      have hgid : ∀ p, L g = some p → p = id := fun p hp => by rw [hL'] at hp; exact (Option.some.inj hp).symm
      have hlim : xs.length * i.size + news.length ≤ c * i.size := by
        rw [hsrc.newsLen, ← Nat.add_mul]; exact Nat.mul_le_mul_right _ hroom
      have hex : ∀ j, j < news.length → (w.cell? ⟨g, off + xs.length * i.size + j, none⟩).isSome = true := fun j hj => cell_lt hh' (by omega)
      have hrun := run_append_room_src (P := P) w T T' o.type e i hu hi g off xs.length c (a.eval y) nn news hsrc hroom hex
        (fun j hj => not_frozen hh' (by have := h10 (xs.length * i.size + j) (by omega); rwa [← Nat.add_assoc] at this))
      have hw := wrote_setCells (R.lab g id hL').2 news (off + xs.length * i.size)
      have hg0 := (R.lab g id hL').1
      obtain ⟨ρ, hρ, hρid, hland⟩ := hland (q + xs.length * i.size)
      obtain ⟨arr', g1, g2⟩ := setCells_same g news (off + xs.length * i.size) w arr e fr hh'
      refine fin _ g (.slice (some ⟨g, off, none⟩) (xs.length + nn) c) ρ (by rw [hA]; exact hrun) hw hg0 hgid hρ trivial (fun σ' hst => ?_)
      refine ⟨_, c, (if_pos rfl).trans (by rw [List.length_append, hln]), .inr ⟨g, off, arr', fr, q, rfl, by show newL L _ _ _ _ = _; simp [newL], g1, by rw [List.length_append, hln]; exact hroom, by omega, h10, by rw [List.length_append, hln, BIG_eq]; exact hbig, RepEls.append ?_ ?_⟩⟩
      · refine old _ g g off off q _ _ ρ hw hg0 hgid hρid hE (fun j hj => ?_)
        exact World.cell?_setCells_out g _ _ w _ (fun _ _ => by show off + j < off + xs.length * i.size ∨ _; omega)
      · refine hland _ g _ _ _ hw hg0 hgid (fun j u hj => ?_)
        have hjl := (List.getElem?_eq_some_iff.1 hj).1
        exact (World.cell?_setCells_in g news (off + xs.length * i.size) w hex j hjl).trans (by rw [← hj]; exact (List.getElem?_eq_getElem hjl).symm)
  · -- a new block
    have hgrow : c < xs.length + nn := by omega
    have key : ∃ olds : List Value, olds.length = xs.length * i.size ∧ (Builtin.firstCells i.size xs.length (.slice A xs.length c)).run P w.drew = .ok olds.toArray w.drew ∧
        (xs = [] ∨ ∃ g off q, RepEls (cx w S F L m s.σ) (.own id) g off q i.size xs ∧ ∀ j u, olds[j]? = some u → w.cell? ⟨g, off + j, none⟩ = some u) := by
      rcases hR with ⟨rfl, rfl, rfl⟩ | ⟨g, off, arr, fr, q, rfl, hL, hh, h8, h9, h10, h11, hE⟩
      · exact ⟨[], by simp, run_firstCells_none w.drew _ _ _ _, .inl rfl⟩
      · obtain ⟨vs, h1, h2⟩ := hE.cells
        exact ⟨vs, h1, run_firstCells_some w.drew i.size xs.length ⟨g, off, none⟩ xs.length c vs h1 (fun j u hj => by rw [add_none]; exact (h2 j u hj).1), .inr ⟨g, off, q, hE, fun j u hj => (h2 j u hj).1⟩⟩
    obtain ⟨olds, hol, hold, hocells⟩ := key
    have hrun := run_append_grow_src (P := P) w T T' o.type e i v hu hi hv A xs.length c olds hold (a.eval y) nn news hsrc hgrow (by omega) (growslice_fits hgrow hby)
    have hw := wrote_drew_alloc w (.cells ((olds ++ news).toArray ++ Builtin.zeroCells v.cells (grownCap w (xs.length + nn) c e - (xs.length + nn))) e)
    have hgid : ∀ p, L w.heap.size = some p → p = id := fun p hp => absurd (R.lab _ p hp).2 (by omega)
    have hcap := grownCap_ge w (xs.length + nn) c e
    have hheap : (w.drew.alloc (.cells ((olds ++ news).toArray ++ Builtin.zeroCells v.cells (grownCap w (xs.length + nn) c e - (xs.length + nn))) e)).heap[w.heap.size]? = some (.cells ((olds ++ news).toArray ++ Builtin.zeroCells v.cells (grownCap w (xs.length + nn) c e - (xs.length + nn))) e (0, 0)) := alloc_heap w.drew _
    have hcell : ∀ j u, (olds ++ news)[j]? = some u → (w.drew.alloc (.cells ((olds ++ news).toArray ++ Builtin.zeroCells v.cells (grownCap w (xs.length + nn) c e - (xs.length + nn))) e)).cell? ⟨w.heap.size, j, none⟩ = some u := fun j u hj => by
      have hjl := (List.getElem?_eq_some_iff.1 hj).1
      unfold World.cell?
      rw [hheap]
      simp only [Option.isSome_none, Bool.false_eq_true, if_false]
      rw [Array.getElem?_append_left (by simpa using hjl)]
      simpa using hj
    have hnl := hsrc.newsLen
    have hnewc : ∀ (off' : Nat), off' = olds.length → ∀ j u, news[j]? = some u → (w.drew.alloc (.cells ((olds ++ news).toArray ++ Builtin.zeroCells v.cells (grownCap w (xs.length + nn) c e - (xs.length + nn))) e)).cell? ⟨w.heap.size, off' + j, none⟩ = some u := fun off' ho j u hj => by
      subst ho
      exact hcell _ u (by rw [List.getElem?_append_right (by omega)]; simpa using hj)
    have hsize : ((olds ++ news).toArray ++ Builtin.zeroCells v.cells (grownCap w (xs.length + nn) c e - (xs.length + nn))).size = grownCap w (xs.length + nn) c e * i.size := by
      rw [Array.size_append, size_zeroCells, hvsz]
      simp only [List.size_toArray, List.length_append, hol, hnl]
      rw [← Nat.add_mul, ← Nat.add_mul]
      congr 1
      omega
    have done : ∀ q, (xs = [] ∨ ∃ g off, RepEls (cx w S F L m s.σ) (.own id) g off q i.size xs ∧ ∀ j u, olds[j]? = some u → w.cell? ⟨g, off + j, none⟩ = some u) → ES false P W0 S F n K o a w := fun q hx => by
      obtain ⟨ρ, hρ, hρid, hland⟩ := hland (q + xs.length * i.size)
      refine fin _ w.heap.size (.slice (some ⟨w.heap.size, 0, none⟩) (xs.length + nn) (grownCap w (xs.length + nn) c e)) ρ (by rw [hA]; exact hrun) hw (.inl R.below.size) hgid hρ trivial (fun σ' hst => ?_)
      refine ⟨_, grownCap w (xs.length + nn) c e, (if_pos rfl).trans (by rw [List.length_append, hln]), .inr ⟨w.heap.size, 0, _, (0, 0), q, rfl, by show newL L _ _ _ _ = _; simp [newL], hheap, by rw [List.length_append, hln]; exact hcap, by rw [hsize]; omega, fun j _ h => by simp at h, by rw [List.length_append, hln, BIG_eq]; exact hbig, RepEls.append ?_ ?_⟩⟩
      · rcases hx with rfl | ⟨g, off, hE, hoc⟩
        · trivial
        · refine old _ g w.heap.size off 0 q _ _ ρ hw (.inl R.below.size) hgid hρid hE (fun j hj => ?_)
          obtain ⟨u, hu'⟩ := getElem?_of_lt (l := olds) (by rw [hol]; exact hj)
          rw [Nat.zero_add]
          exact (hcell j u (by rw [List.getElem?_append_left (by rw [hol]; exact hj)]; exact hu')).trans (hoc j u hu').symm
      · exact hland _ w.heap.size _ _ _ hw (.inl R.below.size) hgid (fun j u hj => hnewc _ (by omega) j u hj)
    rcases hocells with rfl | ⟨g, off, q, hE, hoc⟩
    · exact done 0 (.inl rfl)
    · exact done q (.inr ⟨g, off, hE, hoc⟩)

theorem src_shows (R : RelC W0 S F n L m s a w) {o : Org} {sz : Nat} {els : List (List AV)} {x : Value} (h : Shows (cx w S F L m s.σ) o sz els x) {T e : TypeId} (hk : P.underlying T = some (.slice e)) :
    ∃ news, Src P sz T x els.length news w ∧ news.length = els.length * sz ∧ (els = [] ∨ ∃ b off q, RepEls (cx w S F L m s.σ) (.read o) b off q sz els ∧ ∀ j v, news[j]? = some v → w.cell? ⟨b, off + j, none⟩ = some v) := by
  obtain ⟨_, A, c, rfl, _, _, h⟩ := h
  exact src_of (C := cx w S F L m s.σ) rfl hk (h.imp id fun ⟨b, off, h1, _, h2⟩ => ⟨b, off, 0, h1, h2⟩)
theorem own_src (R : RelC W0 S F n L m s a w) {i : Id} {e sz : Nat} {els : List (List AV)} (h : s.σ i = some (.row e sz els)) {T e' : TypeId} (hk : P.underlying T = some (.slice e')) :
    ∃ news, Src P sz T (m i) els.length news w ∧ news.length = els.length * sz ∧ (els = [] ∨ ∃ b off q, RepEls (cx w S F L m s.σ) (.own i) b off q sz els ∧ ∀ j v, news[j]? = some v → w.cell? ⟨b, off + j, none⟩ = some v) := by
  obtain ⟨A, c, hm, h⟩ := R.obj i _ h
  rw [show m i = _ from hm]
  refine src_of (C := cx w S F L m s.σ) rfl hk ?_
  rcases h with h | ⟨g, off, arr, fr, q, h1, h2, h3, h4, h5, h6, h7, h8⟩
  · exact .inl h.1
  · exact .inr ⟨g, off, q, h1, h8⟩
theorem base_rep (R : RelC W0 S F n L m s a w) {x : Operand} {d e sz : Nat} {id : Id} {xs : List (List AV)} (h : appBase s d e sz (s.ev x) = some (id, xs)) : Rep (cx w S F L m s.σ) true (.own id) (.row e sz xs) (a.eval x) := by
  have hx := R.ev x
  generalize hav : s.ev x = av at h hx
  cases av with
  | ref i =>
    simp only [appBase] at h
    split at h
    · rename_i e' sz' xs' hob
      obtain ⟨h1, h2⟩ := sel_eq_some h
      simp only [Bool.and_eq_true, beq_iff_eq] at h1
      obtain ⟨rfl, rfl⟩ := h1
      simp only [Prod.mk.injEq] at h2
      obtain ⟨rfl, rfl⟩ := h2
      rw [show a.eval x = m i from hx.2.2.2]
      exact R.obj i _ hob
    · cases h
  | v u =>
    simp only [appBase] at h
    obtain ⟨y, hy, h⟩ := bindO_eq h
    simp only [Option.some.injEq, Prod.mk.injEq] at h
    obtain ⟨rfl, rfl⟩ := h
    unfold nilV at hy
    split at hy
    · rw [hx.1]
      exact ⟨none, 0, rfl, .inl ⟨rfl, rfl, rfl⟩⟩
    · cases hy
  | _ => cases h
theorem zeroCells_app (z : Array Value) (k l : Nat) : Builtin.zeroCells z k ++ Builtin.zeroCells z l = madeCells z ((k + l) * z.size) := by
  have e : ∀ n, Builtin.zeroCells z n = madeCells z (n * z.size) := fun n => rfl
  rw [e, e]
  apply Array.ext'
  simp only [madeCells, Array.toList_append, Array.toList_map, Array.toList_range]
  rw [Nat.add_mul, List.range_add, List.map_append]
  congr 1
  rw [List.map_map]
  refine List.map_congr_left fun i hi => ?_
  show z[i % z.size]! = z[(k * z.size + i) % z.size]!
  rw [Nat.mul_comm, Nat.mul_add_mod]
theorem e_appZ {o : Oper} {x y : Operand} {T T' : TypeId} (ho : o.op = .call ⟨.builtin .append, ⟨[x, y]⟩, ⟨[T, T']⟩⟩) (hd : dOk n o.dst) (R : RelC W0 S F n L m s a w) {q : IntKind} {c : Int} (hv : s.ev y = .v (.int q c))
    (h : onSome (intTy P T') fun _ => onSome (elTy P T) fun t => onSome (zeroC P t.1) fun z => onSome o.dst fun d => onNil (s.ev x) (ask (0 < c ∧ c * t.2.2 ≤ 140737488355328 ∧ 0 < t.2.2 ∧ 0 < t.2.1) (K (s.new d (.row t.1 t.2.1 (List.replicate c.toNat (nilL (cty P t.1) z))) (.ref [d]))))) : ES false P W0 S F n K o a w := by
  obtain ⟨_, hT', h1⟩ := onSome.elim h
  obtain ⟨⟨e, sz, by_⟩, ht, h1⟩ := onSome.elim h1
  obtain ⟨z, hz, h1⟩ := onSome.elim h1
  obtain ⟨d, hdst, h1⟩ := onSome.elim h1
  obtain ⟨hnil, ⟨h0, hby, hpos, hps⟩, h2⟩ := onNil.elim h1
  have hx := R.ev x
  have hy := R.ev y
  rw [hnil] at hx
  rw [hv] at hy
  obtain ⟨i, v, hi, hvz, hsz, rfl, hone⟩ := zeroC_run hz
  obtain ⟨i', hu, hi', rfl, rfl⟩ := elTy_run ht
  simp only at hi
  rw [hi] at hi'
  obtain rfl := Option.some.inj hi'
  have hkn : ∃ kn, P.underlying T' = some (.int kn) := by
    unfold intTy at hT'
    split at hT'
    · exact ⟨_, by assumption⟩
    · cases hT'
  obtain ⟨kn, htn⟩ := hkn
  obtain ⟨k, rfl⟩ : ∃ k : Nat, c = k := ⟨c.toNat, by omega⟩
  have hk0 : 0 < k := by omega
  have hbk : k * i.bytes ≤ 140737488355328 := by
    have : ((k * i.bytes : Nat) : Int) ≤ 140737488355328 := by rw [Int.natCast_mul]; exact hby
    omega
  have hk1 : k ≤ 140737488355328 := by
    have : k * 1 ≤ k * i.bytes := Nat.mul_le_mul_left _ hpos
    omega
  have hrun := Go.Lib.run_append_nil_zeros (P := P) w T T' o.type e i v q kn hu htn hi hvz k hk0 hps (by omega) (by omega)
  rw [zeroCells_app, hsz] at hrun
  have hcap := grownCap_ge w k 0 e
  have hG : k + (grownCap w k 0 e - k) = grownCap w k 0 e := by omega
  rw [hG] at hrun
  have hw := wrote_drew_alloc w (.cells (madeCells v.cells (grownCap w k 0 e * i.size)) e)
  have e0 : (execOp a.eval o).run P w = ((Builtin.append_ #[T, T'] o.type #[a.eval x, a.eval y]).run P w).andThen fun v w => .ok (.value v) w := by
    simp [execOp, ho, resolve, invoke, builtin]
  have key : ES true P W0 S F n K o a w := by
    refine e_new R hdst hd (I := []) (ob := .row e i.size (List.replicate k (nilL (cty P e) (v.cells.toList.map .v)))) (ρ := fun p => p) hw (fun _ _ _ => rfl) (hdr := .slice (some ⟨w.heap.size, 0, none⟩) k (grownCap w k 0 e)) ?_ (fun σ' kp hσ => ?_) (.inl ⟨rfl, trivial⟩) (by rw [Int.toNat_natCast] at h2; exact h2)
    · rw [e0, hx.1, hy.1, hrun]; rfl
    · refine ⟨some ⟨w.heap.size, 0, none⟩, grownCap w k 0 e, by rw [List.length_replicate]; exact if_pos rfl, .inr ⟨w.heap.size, 0, madeCells v.cells (grownCap w k 0 e * i.size), (0, 0), 0, rfl, by show newL L _ _ _ _ = _; simp [newL], alloc_heap w.drew _, by rw [List.length_replicate]; omega, by rw [size_madeCells]; omega, fun j _ hj => by simp at hj, by rw [List.length_replicate, BIG_eq]; omega, RepEls.of fun i' cs hcs => ?_⟩⟩
      obtain ⟨hi1, rfl⟩ := List.getElem?_eq_some_iff.1 hcs
      rw [List.length_replicate] at hi1
      rw [List.getElem_replicate]
      refine ⟨by rw [nilL_length]; simpa using hsz, RepCs.of fun j c' hj => ?_⟩
      obtain ⟨ty, u, h3, rfl⟩ := nilL_at hj
      rw [List.getElem?_map] at h3
      obtain ⟨u', hu', rfl⟩ := Option.map_eq_some_iff.1 h3
      have hjl : j < i.size := by
        have := (List.getElem?_eq_some_iff.1 hu').1
        simp at this; omega
      refine ⟨u', ?_, hone u' (List.mem_of_getElem? hu'), rep_nilC (rep_v (hone u' (List.mem_of_getElem? hu'))) ty⟩
      show (w.drew.alloc _).cell? _ = _
      unfold World.cell?
      rw [show (w.drew.alloc (.cells (madeCells v.cells (grownCap w k 0 e * i.size)) e)).heap[w.heap.size]? = _ from alloc_heap w.drew _]
      have hlt : i' * i.size + j < grownCap w k 0 e * i.size := by
        have : (i' + 1) * i.size ≤ grownCap w k 0 e * i.size := Nat.mul_le_mul_right _ (by omega)
        rw [Nat.add_mul] at this
        omega
      have hmod : (i' * i.size + j) % v.cells.size = j := by rw [hsz, Nat.add_comm, Nat.add_mul_mod_self_right, Nat.mod_eq_of_lt hjl]
      have hget : v.cells[j]! = u' := by
        have : v.cells[j]? = some u' := by simpa using hu'
        simp [getElem!_def, this]
      simp [madeCells, hlt, hmod, hget]
  obtain ⟨v', w', s', h1, h2, h3, _⟩ := key
  exact ⟨v', w', s', h1, h2, h3, fun h => by cases h⟩
theorem e_appendOp {o : Oper} {x y : Operand} {T T' : TypeId} (ho : o.op = .call ⟨.builtin .append, ⟨[x, y]⟩, ⟨[T, T']⟩⟩) (hd : dOk n o.dst) (R : RelC W0 S F n L m s a w) (h : opE P H o.dst (.call ⟨.builtin .append, ⟨[x, y]⟩, ⟨[T, T']⟩⟩) s K) : ES false P W0 S F n K o a w := by
  rcases onZ.elim (show onZ _ _ _ from h) with ⟨q, c, hv, h1⟩ | h
  · exact e_appZ ho hd R hv h1
  obtain ⟨d, hdst, h1⟩ := onSome.elim (show onSome _ _ from h)
  obtain ⟨t', ht', h1⟩ := onSome.elim h1
  obtain ⟨⟨e, sz, by_⟩, ht, h1⟩ := onSome.elim h1
  obtain ⟨z, hz, h1⟩ := onSome.elim h1
  obtain ⟨⟨r, els⟩, hy, h1⟩ := onSome.elim h1
  obtain ⟨⟨id, xs⟩, hx, ⟨hby, hpos⟩, h1⟩ := onSome.elim h1
  obtain ⟨i', hk, _⟩ := elTy_run (P := P) (T := T') (e := t'.1) (sz := t'.2.1) (by_ := t'.2.2) ht'
  have hrow := base_rep R hx
  have hyr := R.ev y
  rcases onRef.elim h1 with ⟨i, hv, h2⟩ | ⟨b, hv, h2⟩ | h2
  · -- an object of the call's own
    rw [hv] at hy hyr
    simp only [St.sl] at hy
    unfold rowOf at hy
    split at hy
    · rename_i e2 sz2 els2 hob
      obtain ⟨g1, g2⟩ := sel_eq_some hy
      simp only [Prod.mk.injEq] at g2
      obtain ⟨rfl, rfl⟩ := g2
      obtain rfl : sz2 = sz := by simpa using g1
      obtain ⟨news, hsrc, hln, hcells⟩ := own_src R hob hk
      rw [← show a.eval y = m i from hyr.2.2.2] at hsrc
      cases hH : (H d == 2) with
      | true =>
        rw [hH] at h2
        obtain ⟨⟨hf, hne⟩, h2⟩ := h2
        exact e_append ho hd R hdst ht hz (J := [id]) (by simp) hrow hsrc rfl (lands_flat (C := cx w S F L m s.σ) rfl hln hf hcells) hby hpos h2
      | false =>
        rw [hH] at h2
        obtain ⟨hne, h2⟩ := h2
        exact e_append ho hd R hdst ht hz (J := [id, i]) (by simp) hrow hsrc rfl (lands_moved R (by simp) (hit_mem (I := [i]) (by simp) hne) hln hcells) hby hpos h2
    · cases hy
  · exact h2.elim
  · have hsh := R.sl hy hyr
    obtain ⟨news, hsrc, hln, hcells⟩ := src_shows R hsh hk
    cases ho' : isObj r with
    | true =>
      simp only [ho'] at h2
      obtain ⟨⟨hf, hne⟩, h2⟩ := h2
      exact e_append ho hd R hdst ht hz (J := [id]) (by simp) hrow hsrc rfl (lands_flat (C := cx w S F L m s.σ) rfl hln hf hcells) hby hpos h2
    | false =>
      simp only [ho'] at h2
      exact e_append ho hd R hdst ht hz (J := [id]) (by simp) hrow hsrc (by simp) (lands_read R ho' hln hcells) hby hpos h2

/-! ### slice literals -/
def mvEls (p : Id) : Nat → List (List AV) → List (Id × Id)
  | _, [] => []
  | q, e :: es => mvCs p q e ++ mvEls p (q + e.length) es
theorem clE_mv {k : Nat} {ty : List (Option (Nat × Nat))} : ∀ {els els' : List (List AV)} {I : List Id}, s.clE k ty els = some (els', I) → ∀ (p : Id) (q : Nat), (mvEls p q els).map (·.1) = I
  | [], els', I, h, p, q => by simp [St.clE] at h; simp [mvEls, h.2]
  | e :: es, els', I, h, p, q => by
    simp only [St.clE] at h
    cases hl : (e.length == k) <;> rw [hl] at h
    · cases h
    · obtain ⟨x, hx, h⟩ := bindO_eq (show bindO _ _ = _ from h)
      obtain ⟨y, hy, h⟩ := bindO_eq h
      simp only [Option.some.injEq, Prod.mk.injEq] at h
      rw [mvEls, List.map_append, clL_mv (show s.clL e = some (x.1, x.2) from hx), clE_mv (show s.clE k ty es = some (y.1, y.2) from hy)]
      exact h.2
theorem clE_sound (R : RelC W0 S F n L m s a w) {C' : Cx} (hs : Stays (cx w S F L m s.σ) C') {p : Id} {g k : Nat} {ty : List (Option (Nat × Nat))} : ∀ {els els' : List (List AV)} {I : List Id}, s.clE k ty els = some (els', I) → ∀ {vs : List Value} {off q : Nat},
    vs.length = els.length → (∀ (i : Nat) e, els[i]? = some e → ∃ v : Value, vs[i]? = some v ∧ RepVs (cx w S F L m s.σ) false (.read .ent) 0 e v.cells.toList) →
    (∀ x ∈ mvEls p q els, Tr (cx w S F L m s.σ) C' (.own x.1) (.own x.2)) → (∀ (i : Nat) v, vs[i]? = some v → ∀ (j : Nat) u, v.cells.toList[j]? = some u → C'.w.cell? ⟨g, off + i * k + j, none⟩ = some u) →
    els'.length = els.length ∧ RepEls C' (.own p) g off q k els'
  | [], els', I, h, vs, off, q, _, _, _, _ => by
    simp [St.clE] at h
    rw [h.1]
    exact ⟨rfl, trivial⟩
  | e :: es, els', I, h, vs, off, q, hl, hr, ht, hc => by
    simp only [St.clE] at h
    cases hlen : (e.length == k) <;> rw [hlen] at h
    · cases h
    · obtain ⟨x, hx, h⟩ := bindO_eq (show bindO _ _ = _ from h)
      obtain ⟨y, hy, h⟩ := bindO_eq h
      simp only [Option.some.injEq, Prod.mk.injEq] at h
      have hlen : e.length = k := by simpa using hlen
      cases vs with
      | nil => simp at hl
      | cons v vs =>
        obtain ⟨v', hv', hrv⟩ := hr 0 e (by simp)
        obtain rfl : v = v' := by simpa using hv'
        obtain ⟨g1, g2, g3, g4⟩ := clL_sound (p := p) R hs (show s.clL e = some (x.1, x.2) from hx) (q := q) hrv (fun z hz => ht z (by simp [mvEls, hz]))
        obtain ⟨g5, g6⟩ := clE_sound (p := p) (g := g) (k := k) (ty := ty) R hs (show s.clE k ty es = some (y.1, y.2) from hy) (vs := vs) (off := off + k) (q := q + k) (by simpa using hl) (fun i e' he' => by
            have := hr (i + 1) e' (by simpa using he')
            simpa using this) (fun z hz => ht z (by rw [mvEls, hlen]; simp [hz])) (fun i u hu j z hz => by
            have := hc (i + 1) u (by simpa using hu) j z hz
            rw [show off + (i + 1) * k + j = off + k + i * k + j by rw [Nat.add_mul]; omega] at this
            exact this)
        rw [← h.1]
        refine ⟨by simp [g5], by rw [nilL_length, g1, hlen], RepCs.of fun j c hj => ?_, g6⟩
        obtain ⟨t, u, h3, rfl⟩ := nilL_at hj
        obtain ⟨z, h4, h5⟩ := g4 j u h3
        refine ⟨z, ?_, g3 z (List.mem_of_getElem? h4), rep_nilC h5 t⟩
        have := hc 0 v (by simp) j z h4
        simpa using this
theorem partsOf_spec : ∀ {l : List (Nat × Operand)} {i : Nat} {els : List (List AV)}, partsOf s i l = some els → els.length = l.length ∧ (∀ (j : Nat) e, els[j]? = some e → ∃ x : Nat × Operand, l[j]? = some x ∧ e = (s.ev x.2).cells) ∧ l.map (fun x : Nat × Operand => (x.1, a.eval x.2)) = ((l.map fun x : Nat × Operand => a.eval x.2).zipIdx i).map fun x => (x.2, x.1)
  | [], i, els, h => by simp [partsOf] at h; subst h; simp
  | x :: l, i, els, h => by
    simp only [partsOf] at h
    cases hx : (x.1 == i) <;> rw [hx] at h
    · cases h
    · obtain ⟨r, hr, h⟩ := bindO_eq (show bindO _ _ = _ from h)
      obtain rfl := Option.some.inj h
      obtain ⟨h1, h2, h3⟩ := partsOf_spec hr
      have hx : x.1 = i := by simpa using hx
      refine ⟨by simp [h1], fun j e hj => ?_, by simp [h3, hx]⟩
      cases j with
      | zero => exact ⟨x, by simp, by simpa using hj.symm⟩
      | succ j =>
        obtain ⟨z, h4, h5⟩ := h2 j e (by simpa using hj)
        exact ⟨z, by simpa using h4, h5⟩
theorem okCell_clE {k : Nat} {ty : List (Option (Nat × Nat))} : ∀ {els : List (List AV)} {x : List (List AV) × List Id}, s.clE k ty els = some x → ∀ e ∈ els, e.length = k ∧ ∀ c ∈ e, okCell c
  | [], _, _, c, hc => by simp at hc
  | d :: cs, x, h, c, hc => by
    simp only [St.clE] at h
    cases hl : (d.length == k) <;> rw [hl] at h
    · cases h
    · obtain ⟨y, hy, h⟩ := bindO_eq (show bindO _ _ = _ from h)
      obtain ⟨z, hz, _⟩ := bindO_eq h
      rcases List.mem_cons.1 hc with rfl | hc
      · exact ⟨by simpa using hl, okCell_clL hy⟩
      · exact okCell_clE hz c hc
theorem n_build {o : Oper} {T : TypeId} {len : Nat} {parts : Array (Nat × Operand)} (ho : o.op = .buildSlice T len parts) (hd : dOk n o.dst) (R : RelC W0 S F n L m s a w) (h : opE P H o.dst (.buildSlice T len parts) s K) : NS P W0 S F n K o L a w := by
  obtain ⟨⟨e, sz, by_⟩, ht, h1⟩ := onSome.elim (show onSome _ _ from h)
  obtain ⟨d, hdst, h1⟩ := onSome.elim h1
  obtain ⟨els, hels, h1⟩ := onSome.elim h1
  obtain ⟨z, hz, ⟨hlen, hpos, hlim⟩, h1⟩ := onSome.elim h1
  obtain ⟨⟨els', I⟩, hcl, hind, h2⟩ := onSome.elim h1
  obtain ⟨i, v, hi, hv, hsz, rfl, hone⟩ := zeroC_run hz
  obtain ⟨i', hu, hi', rfl, rfl⟩ := elTy_run ht
  simp only at hi hpos hlim hcl h2
  rw [hi] at hi'
  obtain rfl := Option.some.inj hi'
  have hmv := clE_mv hcl [d] 0
  obtain ⟨p1, p2, p3⟩ := partsOf_spec (a := a) hels
  have hoke := okCell_clE hcl
  have hreps : ∀ (j : Nat) e', els[j]? = some e' → ∃ u : Value, (parts.toList.map fun x => a.eval x.2)[j]? = some u ∧ RepVs (cx w S F L m s.σ) false (.read .ent) 0 e' u.cells.toList := fun j e' hj => by
    obtain ⟨x, hx, rfl⟩ := p2 j e' hj
    exact ⟨a.eval x.2, by rw [List.getElem?_map, hx]; rfl, cells_rep (R.ev x.2) (hoke _ (List.mem_of_getElem? hj)).2⟩
  have hvsz : ∀ u ∈ parts.toList.map (fun x => a.eval x.2), u.cells.size = i.size := fun u hu => by
    obtain ⟨j, hj⟩ := List.mem_iff_getElem?.1 hu
    have hjl := (List.getElem?_eq_some_iff.1 hj).1
    rw [List.length_map, ← p1] at hjl
    obtain ⟨e', he'⟩ := getElem?_of_lt hjl
    obtain ⟨u', h3, h4⟩ := hreps j e' he'
    rw [hj] at h3
    obtain rfl := Option.some.inj h3
    have := h4.len
    rw [(hoke _ (List.mem_of_getElem? he')).1] at this
    simpa using this
  have hparts : (parts.map fun (i, x) => (i, a.eval x)).toList = ((parts.toList.map fun x => a.eval x.2).zipIdx 0).map fun x => (x.2, x.1) := by
    rw [Array.toList_map]; exact p3
  have hplen : parts.toList.length = len := by rw [← p1]; exact hlen
  obtain ⟨cells, hf, hfs, hfk⟩ := Great.fill_dense hpos (parts.toList.map fun x => a.eval x.2) 0 (if len * i.size = 0 then #[] else (Array.range (len * i.size)).map (v.cells[· % v.cells.size]!)) hvsz (by
    rw [List.length_map, hplen, Nat.zero_add]
    split <;> simp_all)
  have hrun : ∀ w : World, (execOp a.eval o).run P w = .ok (.value (.slice (some ⟨w.heap.size, 0, none⟩) len len)) (w.alloc (.cells cells e)) := fun w => by
    rw [← hparts] at hf
    have hs' : ¬ (16777216 < len * i.size) := by omega
    by_cases h0 : len * i.size = 0
    · rw [if_pos h0] at hf
      simp only [execOp, ho, Instr.buildSlice, Sem.run_bind, run_underlying hu, Result.andThen_ok]
      simp [sizeOf, typeInfo, hi, h0, Array.range_zero', newRow] at hf ⊢
      simp [hf]
    · rw [if_neg h0] at hf
      have := run_buildSlice (P := P) w T e len _ cells i v hu hi hv (by omega) h0 hf
      simp only [execOp, ho, Sem.run_bind, this]
      rfl
  have hcs : cells.size = len * i.size := by
    rw [hfs]
    split
    · rename_i h0; simp [h0]
    · simp
  refine e_newN R hdst hd (I := I) (ob := .row e i.size els') (ρ := mvL (mvEls [d] 0 els)) (fun y r hy => mvL_out (fun x hx => hit_mem (I := [d] :: I) (by rw [← hmv]; exact List.mem_cons_of_mem _ (List.mem_map.2 ⟨x, hx, rfl⟩)) hy) r) (hdrOf := fun g => .slice (some ⟨g, 0, none⟩) len len) (obj := .cells cells e) hrun (fun w' g σ' hw hL hh kp hσ => ?_) (fun _ => .inl ⟨rfl, trivial⟩) h2
  subst hσ
  have hE := clE_sound (p := [d]) (g := g) (off := 0) (q := 0) R kp.st hcl (vs := parts.toList.map fun x => a.eval x.2) (by rw [List.length_map, p1]) hreps
    (fun x hx => tr_moved' R hw (id := [d]) (fun r => mvL_in (by rw [hmv]; exact hind) hx r) (fun b r hb e => hL _ (e ▸ hb))) (fun i' u hu' j z hz' => ?_)
  · refine ⟨some ⟨g, 0, none⟩, len, (if_pos rfl).trans (by rw [hE.1]; rw [show els.length = len from hlen]), .inr ⟨g, 0, cells, (0, 0), 0, rfl, by show newL L _ _ _ _ = _; simp [newL], hh, by rw [hE.1]; exact Nat.le_of_eq hlen, by omega, fun j _ hj => by simp at hj, ?_, hE.2⟩⟩
    rw [hE.1, BIG_eq, show els.length = len from hlen]
    have : len * 1 ≤ len * i.size := Nat.mul_le_mul_left _ hpos
    omega
  · show w'.cell? _ = _
    unfold World.cell?
    rw [show w'.heap[g]? = _ from hh]
    have hi'' := (List.getElem?_eq_some_iff.1 hu').1
    rw [List.length_map, hplen] at hi''
    have hjl : j < i.size := by
      have := (List.getElem?_eq_some_iff.1 hz').1
      have := hvsz u (List.mem_of_getElem? hu')
      simp at *; omega
    have h5 := hfk (i' * i.size + j)
    have hlt : i' * i.size + j < len * i.size := by
      have : (i' + 1) * i.size ≤ len * i.size := Nat.mul_le_mul_right _ hi''
      rw [Nat.add_mul] at this
      omega
    rw [List.length_map, hplen, if_pos ⟨by omega, by rw [Nat.zero_add]; exact hlt⟩] at h5
    have hdiv : (i' * i.size + j) / i.size = i' := by rw [Nat.add_comm, Nat.add_mul_div_right _ _ hpos, Nat.div_eq_of_lt hjl, Nat.zero_add]
    have hmod : (i' * i.size + j) % i.size = j := by rw [Nat.add_comm, Nat.add_mul_mod_self_right, Nat.mod_eq_of_lt hjl]
    rw [hdiv, hmod, Nat.sub_zero, hu'] at h5
    simp only [Option.isSome_none, Bool.false_eq_true, if_false, Nat.zero_add]
    rw [h5]
    simpa using hz'
theorem e_build {o : Oper} {T : TypeId} {len : Nat} {parts : Array (Nat × Operand)} (ho : o.op = .buildSlice T len parts) (hd : dOk n o.dst) (R : RelC W0 S F n L m s a w) (h : opE P H o.dst (.buildSlice T len parts) s K) : ES true P W0 S F n K o a w := (n_build ho hd R h).es R
end
end Go.Ev
