/- Part 10 of what the row leans on: the evaluator, words, contracts of functions; pruned by a program of ours. -/
import Derived.Test.YtcmkgoflnfchcaaWn09
import Derived.RangeFuncNested
import Derived.RangeFuncLeaves
import Derived.RangeFuncCalls
import Derived.Sort.LoopGhostIn
import Derived.OrdersIn
set_option linter.unusedVariables false
set_option linter.unusedSimpArgs false
namespace Go.Ev
open Go Go.RowKit
abbrev wR (l : Nat) : Fence := Fence.wide.inRound l
def noDef (o : Oper) : Bool := match o.op with | .defer _ => false | _ => true
theorem noDef_ne {o : Oper} (h : noDef o = true) : ∀ c, o.op ≠ .defer c := fun c e => by unfold noDef at h; rw [e] at h; cases h
section
variable {P : Program} {l n : Nat} {Q : Exit → Act → World → Prop} {ops : Array Oper}
theorem rows_round {row : String} {args : Array Value} {w : World} {R : Value → World → Prop} (h : Rows P row args w R) : RowsIn (wR l) n P row args w R := fun c cs _ => let ⟨v, w', r, s⟩ := h c cs; ⟨v, w', r, stepsIn_wide.2 s⟩
theorem calls_round {f : FuncId} {args : Array Value} {w : World} {R : Ending → World → Prop} (h : Calls P f args w R) : CallsIn (wR l) n P f args w R := CallsIn.inRound l (callsIn_wide.2 h)
theorem wp_round {o : Oper} {a : Act} {w : World} {K : Act → World → Prop} (hd : noDef o = true) (h : o.wp P a w K Q) : o.wpIn (wR l) n P a w K Q := by
  refine ⟨fun f _ => trivial, ?_⟩
  show o.uponIn (wR l) n P a K Q ((o.semAt (some l) a.eval).run P w)
  rw [Oper.semAt_some l _ o (noDef_ne hd)]
  unfold Oper.wp at h
  generalize (execOp a.eval o).run P w = r at *
  cases r with
  | ok nx w' =>
    cases nx with
    | value v => exact h
    | skip => exact h
    | defer d => exact h
    | enter f args => exact ⟨fun h' => Bool.noConfusion (show false = true from h'), calls_round h⟩
    | row r args => exact ⟨fun h' => Bool.noConfusion (show false = true from h'), rows_round h⟩
    | _ => exact False.elim h
  | halt x w' => cases x <;> first | exact h | exact h.elim
theorem list_round (hq : ¬ LetsOut Q) : ∀ (xs : List Oper) {a : Act} {w : World}, (∀ o ∈ xs, noDef o = true) → wpList P ops Q xs a w → wpListIn (wR l) n P ops Q xs a w
  | [], _, _, _, h => h
  | o :: xs, a, w, hd, h => by
    rw [wpList] at h
    rw [wpListIn]
    split
    · rename_i hw
      rw [if_pos hw] at h
      rcases h with h | h
      · exact Go.Oper.wpIn_mono (fun a w h => list_round hq xs (fun o ho => hd o (by simp [ho])) h) (wp_round (hd o (by simp)) h)
      · exact absurd h.2 hq
    · rename_i hw
      rw [if_neg hw] at h
      exact ⟨fun _ _ => trivial, list_round hq xs (fun o ho => hd o (by simp [ho])) h⟩
theorem any_round {md : Region.Mode} (hq : ¬ LetsOut Q) (hd : ∀ o ∈ ops.toList, noDef o = true) : ∀ (fuel : Nat) (listed : Array Bool) (a : Act) (w : World), wpAny P md ops Q fuel listed a w → wpAnyIn (wR l) n P md ops Q fuel listed a w
  | 0, _, _, _, h => h
  | fuel + 1, listed, a, w, h => ⟨h.1, fun i hi => by
    have h2 := h.2 i hi
    unfold wpOp at h2
    unfold wpOpIn
    cases ho : ops[i]? with
    | none => rw [ho] at h2; exact any_round hq hd fuel _ a w h2
    | some o =>
      rw [ho] at h2
      simp only at h2 ⊢
      split
      · rename_i hw
        rw [if_pos hw] at h2
        have hmem : o ∈ ops.toList := by
          have := Array.mem_of_getElem? ho
          simpa using this
        rcases h2 with h2 | h2
        · exact Go.Oper.wpIn_mono (fun a w h => any_round hq hd fuel _ a w h) (wp_round (hd o hmem) h2)
        · exact absurd h2.2 hq
      · rename_i hw
        rw [if_neg hw] at h2
        exact ⟨fun _ _ => trivial, any_round hq hd fuel _ _ w h2⟩⟩
end
def wfRound (O : Nat → List Nat) : Code → Bool
  | .skip | .exit _ | .ret => true
  | .seq a b => wfRound O a && wfRound O b
  | .cond _ a b => wfRound O a && wfRound O b
  | .block _ c => wfRound O c
  | .loop c => wfRound O c
  | .region id ops draw => ops.all noDef && (!draw || !(O id).isEmpty)
  | _ => false
section
variable {P : Program} {H : Nat → Nat} {W0 : Bs} {S F : Nat → Prop} {n : Nat}
theorem awp_soundR {O : Nat → List Nat} (hm : P.follows .mixedOrders = true) (l k : Nat) : ∀ (c : Code) {s : St} {a : Act} {w : World} {Qa : Ex → St → Prop} {Q : Exit → Act → World → Prop}, wfCode O n c = true → wfRound O c = true → ¬ LetsOut Q → Rel W0 S F n s a w → awp P H O c s Qa → (∀ e s a w, Rel W0 S F n s a w → Qa e s → Q (exOf e) a w) → c.wpIn (wR l) k P Q a w
  | .skip, s, a, w, Qa, Q, hw, hr, hq, hR, h, hQ => wpIn_skip (hQ .normal s a w hR h)
  | .exit i, s, a, w, Qa, Q, hw, hr, hq, hR, h, hQ => wpIn_exit (hQ (.exit i) s a w hR h)
  | .ret, s, a, w, Qa, Q, hw, hr, hq, hR, h, hQ => wpIn_ret (hQ .ret s a w hR h)
  | .seq x y, s, a, w, Qa, Q, hw, hr, hq, hR, h, hQ => by
    simp only [wfCode, wfRound, Bool.and_eq_true] at hw hr
    refine wpIn_seq (awp_soundR hm l k x hw.1 hr.1 (Q := Exit.then _ Q) (fun ⟨a, w, h⟩ => hq ⟨a, w, h⟩) hR h fun e s a w hR he => ?_)
    cases e with
    | normal => exact awp_soundR hm l k y hw.2 hr.2 hq hR he hQ
    | exit i => exact hQ (.exit i) s a w hR he
    | ret => exact hQ .ret s a w hR he
  | .cond c x y, s, a, w, Qa, Q, hw, hr, hq, hR, h, hQ => by
    simp only [wfCode, wfRound, Bool.and_eq_true] at hw hr
    obtain ⟨L, m, R⟩ := hR
    obtain ⟨t, ht, h1⟩ := onBool.elim (show onBool _ _ from h)
    have hc := R.ev c
    rw [ht] at hc
    exact wpIn_cond_split hc.1 (fun ht => awp_soundR hm l k x hw.1 hr.1 hq ⟨L, m, R⟩ (h1.1 ht) hQ) (fun ht => awp_soundR hm l k y hw.2 hr.2 hq ⟨L, m, R⟩ (h1.2 ht) hQ)
  | .block i c, s, a, w, Qa, Q, hw, hr, hq, hR, h, hQ => by
    refine wpIn_block (awp_soundR hm l k c hw hr (Q := Exit.inBlock i Q) (fun ⟨a, w, h⟩ => hq ⟨a, w, h⟩) hR h fun e s a w hR he => ?_)
    cases e with
    | normal => exact hQ .normal s a w hR he
    | ret => exact hQ .ret s a w hR he
    | exit j =>
      show if j = i then Q .normal a w else Q (.exit j) a w
      have he : sel (j == i) (Qa .normal s) (Qa (.exit j) s) := he
      by_cases e : j = i
      · subst e
        rw [if_pos rfl]
        rw [show (j == j) = true by simp] at he
        exact hQ .normal s a w hR he
      · rw [if_neg e]
        rw [show (j == i) = false by simpa using e] at he
        exact hQ (.exit j) s a w hR he
  | .loop c, s, a, w, Qa, Q, hw, hr, hq, hR, h, hQ => by
    obtain ⟨I, k', ⟨s0, hw0, hI⟩, hround⟩ := h
    refine wpIn_loop_ghost (fun k a w => ∃ s, Rel W0 S F n s a w ∧ I k s) k' ⟨s0, hw0.rel hR, hI⟩ fun k' a w ⟨s, hR, hI⟩ => ?_
    refine awp_soundR hm l k c (by simpa [wfCode] using hw) (by simpa [wfRound] using hr) (Q := Exit.then _ Q) (fun ⟨a, w, h⟩ => hq ⟨a, w, h⟩) hR (hround k' s hI) fun e s a w hR he => ?_
    cases e with
    | normal => obtain ⟨k2, h1, s2, hw2, h2⟩ := he; exact ⟨k2, h1, s2, hw2.rel hR, h2⟩
    | exit i => exact hQ (.exit i) s a w hR he
    | ret => exact hQ .ret s a w hR he
  | .region i ops draw, s, a, w, Qa, Q, hw, hr, hq, hR, h, hQ => by
    simp only [wfCode, wfRound, Bool.and_eq_true, Bool.or_eq_true, Bool.not_eq_true'] at hw hr
    obtain ⟨hd, hdraw⟩ := hw
    obtain ⟨hn, hne⟩ := hr
    have hn' : ∀ o ∈ ops.toList, noDef o = true := fun o ho => (Array.all_eq_true'.1 hn) o (by simpa using ho)
    have hd' : ∀ o ∈ ops.toList, dOk n o.dst := fun o ho => by
      have := (Array.all_eq_true'.1 hd) o (by simpa using ho)
      unfold dOk
      split at this <;> simp_all
    cases draw with
    | false => exact wpIn_region_list (list_round hq _ hn' (ops_sound ops.toList hd' hR h fun s a w => hQ .normal s a w))
    | true =>
      have h : regE P H ops (O i) s (Qa .normal) := h
      have hdraw := hdraw.resolve_left (by simp)
      have hne := hne.resolve_left (by simp)
      obtain ⟨L, m, R⟩ := hR
      cases hO : O i with
      | nil => rw [hO] at hne; cases hne
      | cons j π =>
        rw [hO] at h hdraw
        have key := region_any (Q := Q) hd' hdraw R h fun s a w hR hK => hQ .normal s a w hR hK
        refine wpIn_mono (wpIn_region_any hm (any_round (Q := fun e a w => match e with | .panic _ => False | e => Q e a w) (fun ⟨a, w, h⟩ => hq ⟨a, w, h⟩) hn' _ _ _ _ key)) fun e a w he => ?_
        cases e with
        | panic c => exact False.elim he
        | _ => exact he
  | .goto _, _, _, _, _, _, _, hr, _, _, _, _ => by cases hr
  | .label _, _, _, _, _, _, _, hr, _, _, _, _ => by cases hr
  | .scope _, _, _, _, _, _, _, hr, _, _, _, _ => by cases hr
  | .refuse _, _, _, _, _, _, _, hr, _, _, _, _ => by cases hr
  | .rangeFunc .., _, _, _, _, _, _, hr, _, _, _, _ => by cases hr
end
section
variable {P : Program} {H : Nat → Nat} {B : Bs} {S F : Nat → Prop} {n : Nat} {L : Nat → Option Id} {m : Id → Value} {s : St} {a : Act} {w : World}
theorem RelC.re (R : RelC B S F n L m s a w) {B2 : Bs} {w2 : World} {a2 : Act} (ht : a2.tmps = a.tmps) (hd : a2.defers = B2.df) (hk : ∀ b, (L b).isSome = true ∨ S b ∨ F b → w2.heap[b]? = w.heap[b]?) (hs : w.heap.size ≤ w2.heap.size)
    (hl : ∀ b p, L b = some p → B2.ok b) (ho : ∀ b, S b ∨ F b → ¬ B2.ok b) (hb : B2.bel w2) : RelC B2 S F n L m s a2 w2 := by
  have k : Keep (cx w S F L m s.σ) (cx w2 S F L m s.σ) [] [] := ⟨⟨fun b h => ⟨h, hk b (.inr (.inl h))⟩, fun b h => ⟨h, hk b (.inr (.inr h))⟩⟩, fun _ _ => rfl, fun _ _ h => ⟨h, rfl⟩, fun y _ _ b q h => ⟨h, hk b (.inl (by rw [show L b = _ from h]; rfl))⟩⟩
  refine ⟨by rw [ht]; exact R.size, hd, fun d => ?_, fun x ob h => ?_, fun b p h => ⟨hl b p h, Nat.lt_of_lt_of_le (R.lab b p h).2 hs⟩, R.ind, ho, hb⟩
  · rw [ht]
    have := Rep.keep k _ _ (R.env d)
    rwa [AV.kill_nil] at this
  · have h' : killS s.σ [] [] x = some ob := by rw [killS_nil]; exact h
    obtain ⟨hj, ob0, h0, h1⟩ := killS_some h'
    rw [h1]
    exact RepOb.keep k hj (show (s.σ x).isSome = true by rw [h0]; rfl) (R.obj x ob0 h0)
theorem RelC.anew (R : RelC B S F n L m s a w) (df : List Deferred) {a2 : Act} (ht : a2.tmps = a.tmps) (hd : a2.defers = df) : RelC ⟨w, fun b => (L b).isSome = true, df⟩ S F n L m s a2 w :=
  R.re ht hd (fun _ _ => rfl) (Nat.le_refl _) (fun b p h => .inr (by show (L b).isSome = true; rw [h]; rfl)) (fun b hb hok => by
    have hlt := Bs.lt (R.old b hb)
    have hsz := R.below.size
    rcases hok with h | h
    · exact absurd h (by show ¬ w.heap.size ≤ b; omega)
    · obtain ⟨p, hp⟩ := Option.isSome_iff_exists.1 h
      exact R.old b hb (R.lab b p hp).1) (Bs.bel.refl _)
def pinId (k : Nat) : Id := [2000000, k]
def pin1 (s : St) (k : Nat) (x : Value) : St := (s.chg [pinId k] [pinId k]).obj (pinId k) (.pin ((s.env k).kill [pinId k] [pinId k]) x)
def pinAll (vals : Nat → Value) : List Nat → St → St
  | [], s => s
  | k :: ks, s => pinAll vals ks (pin1 s k (vals k))
def pinEnv : List Nat → (Id → Option OB) → Nat → AV
  | [], _ => fun _ => .any
  | k :: ks, σ => upd (pinEnv ks σ) k (pinOf (σ (pinId k)))
def pinsOk (vals : Nat → Value) : List Nat → (Id → Option OB) → Prop
  | [], _ => True
  | k :: ks, σ => pinV (σ (pinId k)) (vals k) ∧ pinsOk vals ks σ
theorem RelC.pin1 (R : RelC B S F n L m s a w) (k : Nat) : RelC B S F n L m (pin1 s k (a.tmps.getD k undef)) a w := by
  have hk : Keep (cx w S F L m s.σ) (cx w S F L m (updS (killS s.σ [pinId k] [pinId k]) (pinId k) (.pin ((s.env k).kill [pinId k] [pinId k]) (a.tmps.getD k undef)))) [pinId k] [pinId k] := by
    refine ⟨⟨fun b h => ⟨h, rfl⟩, fun b h => ⟨h, rfl⟩⟩, fun _ h => h, fun id h hl => ⟨?_, rfl⟩, fun _ _ _ b q h => ⟨h, rfl⟩⟩
    show (updS _ _ _ id).isSome = true
    unfold updS
    cases e : (id == pinId k) with
    | true => rfl
    | false => exact killS_isSome.2 ⟨h, hl⟩
  exact R.upd1 (by simp) hk (Rep.keep hk _ _ (R.env k)) R.lab R.below
theorem RelC.pinAll : ∀ (ks : List Nat) {s : St}, RelC B S F n L m s a w → RelC B S F n L m (pinAll (fun k => a.tmps.getD k undef) ks s) a w
  | [], _, R => R
  | k :: ks, _, R => RelC.pinAll ks (R.pin1 k)
theorem pinEnv_rep (R : RelC B S F n L m s a w) {tmps : Array Value} : ∀ (ks : List Nat), pinsOk (fun k => tmps.getD k undef) ks s.σ → ∀ d, Rep (cx w S F L m s.σ) false (.read .ent) (pinEnv ks s.σ d) (tmps.getD d undef)
  | [], _, d => trivial
  | k :: ks, h, d => by
    show Rep _ _ _ (upd _ _ _ d) _
    unfold upd
    cases e : (d == k) with
    | false => exact pinEnv_rep R ks h.2 d
    | true =>
      obtain rfl : d = k := by simpa using e
      have h1 := h.1
      cases hs : s.σ (pinId d) with
      | none => trivial
      | some ob =>
        cases ob with
        | pin c x =>
          rw [hs] at h1
          have := R.obj _ _ hs
          obtain rfl : x = tmps.getD d undef := h1
          exact this
        | _ => trivial
theorem RelC.back (R : RelC B S F n L m s a w) {ks : List Nat} {a2 : Act} (hn : a2.tmps.size = n) (hd : a2.defers = B.df) (h : pinsOk (fun k => a2.tmps.getD k undef) ks s.σ) : RelC B S F n L m ⟨pinEnv ks s.σ, s.σ⟩ a2 w :=
  ⟨hn, hd, pinEnv_rep R ks h, R.obj, R.lab, R.ind, R.old, R.below⟩
end
def markD (D : Nat) : Deferred := { target := .collected D, args := #[] }
structure ExtD (B B' : Bs) (D : Nat) : Prop where
  df : B'.df = [markD D]
  new : B.w.heap.size ≤ D
  not : ¬ B'.ok D
  blk : B'.w.heap[D]? = some (.deferred (some []))
  bel : B.bel B'.w
  sub : ∀ b, B'.mu b → B.ok b
def PostK (B : Bs) (S F : Nat → Prop) (n : Nat) (K : St → Prop) : Exit → Act → World → Prop
  | .normal, a, w => ∃ B', (B' = B ∨ ∃ D, ExtD B B' D) ∧ ∃ s, Rel B' S F n s a w ∧ K s
  | _, _, _ => False
def RangeE (P : Program) (N0 : Nat) (c : Code) (s : St) (K : St → Prop) : Prop :=
  ∀ (B : Bs) (S F : Nat → Prop) (n : Nat) (a : Act) (w : World), N0 ≤ n → B.df = [] → Rel B S F n s a w → c.wp P (PostK B S F n K) a w
def awpN (P : Program) (H : Nat → Nat) (O : Nat → List Nat) (N0 : Nat) : List Nat → Code → St → (Ex → St → Prop) → Prop
  | [], .seq a b, s, Q => RangeE P N0 a s fun s' => awp P H O b s' Q
  | _ :: l, .seq a b, s, Q => awp P H O a s (Ex.then (fun s' => awpN P H O N0 l b s' Q) Q)
  | _, _, _, _ => False
def wfN (O : Nat → List Nat) (n : Nat) : List Nat → Code → Bool
  | [], .seq a b => wfCode O n b
  | _ :: l, .seq a b => wfCode O n a && wfN O n l b
  | _, _ => false
def PostC (B : Bs) (S F : Nat → Prop) (n : Nat) (Qa : Ex → St → Prop) : Exit → Act → World → Prop := fun e a w => ∃ B', (B' = B ∨ ∃ D, ExtD B B' D) ∧ ∃ e' s, e = exOf e' ∧ Rel B' S F n s a w ∧ Qa e' s
theorem awpN_sound {P : Program} {H : Nat → Nat} {O : Nat → List Nat} {N0 : Nat} (hm : P.follows .mixedOrders = true) {B : Bs} {S F : Nat → Prop} {n : Nat} (hn : N0 ≤ n) (hdf : B.df = []) {Qa : Ex → St → Prop} : ∀ (l : List Nat) (c : Code) {s : St} {a : Act} {w : World}, wfN O N0 l c = true → Rel B S F n s a w → awpN P H O N0 l c s Qa → c.wp P (PostC B S F n Qa) a w
  | [], .seq x y, s, a, w, hw, hR, h => by
    refine wp_seq (wp_mono (h B S F n a w hn hdf hR) fun e a w he => ?_)
    cases e with
    | normal =>
      obtain ⟨B', hE, s', hR', hK⟩ := he
      exact awp_sound hm y (wf_mono hn hw) hR' hK fun e s a w hR he => ⟨B', hE, e, s, rfl, hR, he⟩
    | _ => exact False.elim he
  | _ :: l, .seq x y, s, a, w, hw, hR, h => by
    simp only [wfN, Bool.and_eq_true] at hw
    refine wp_seq (awp_sound hm x (wf_mono hn hw.1) hR h fun e s a w hR he => ?_)
    cases e with
    | normal => exact awpN_sound hm hn hdf l y hw.2 hR he
    | exit i => exact ⟨B, .inl rfl, .exit i, s, rfl, hR, he⟩
    | ret => exact ⟨B, .inl rfl, .ret, s, rfl, hR, he⟩
  | [], .skip, _, _, _, hw, _, _ | [], .region .., _, _, _, hw, _, _ | [], .cond .., _, _, _, hw, _, _ | [], .block .., _, _, _, hw, _, _ | [], .loop .., _, _, _, hw, _, _ | [], .exit .., _, _, _, hw, _, _ | [], .ret, _, _, _, hw, _, _ | [], .scope .., _, _, _, hw, _, _ | [], .label .., _, _, _, hw, _, _ | [], .goto .., _, _, _, hw, _, _ | [], .refuse .., _, _, _, hw, _, _ | [], .rangeFunc .., _, _, _, hw, _, _ => by cases hw
  | _ :: _, .skip, _, _, _, hw, _, _ | _ :: _, .region .., _, _, _, hw, _, _ | _ :: _, .cond .., _, _, _, hw, _, _ | _ :: _, .block .., _, _, _, hw, _, _ | _ :: _, .loop .., _, _, _, hw, _, _ | _ :: _, .exit .., _, _, _, hw, _, _ | _ :: _, .ret, _, _, _, hw, _, _ | _ :: _, .scope .., _, _, _, hw, _, _ | _ :: _, .label .., _, _, _, hw, _, _ | _ :: _, .goto .., _, _, _, hw, _, _ | _ :: _, .refuse .., _, _, _, hw, _, _ | _ :: _, .rangeFunc .., _, _, _, hw, _, _ => by cases hw
theorem Meets.introN {P : Program} {f : FuncId} {args : List AV} {post : AV → Prop} {fn : Func} {c : Code} (hm : P.follows .mixedOrders = true) (H : Nat → Nat) (O : Nat → List Nat) (ls : List Nat) (hf : P.funcs[f]? = some fn) (hb : fn.body = some c) (hn : (fn.name != "runtime.NumGoroutine") = true)
    {rs : List ResultVar} {ts : List TypeId} (hr : fn.results.toList = rs) (ht : fn.resultTypes.toList = ts)
    (hw : wfN O fn.ntmps ls c = true) (h : awpN P H O fn.ntmps ls c (St.init args) (RetQ P rs ts post)) : Meets P f args post := by
  refine ⟨by rw [hf]; simp only [hb, hn]; rfl, fun w S F base vals hold hreps => callsIn_wide.1 (callsIn_of_wp_marks (n := 3) hf hb trivial (wpIn_wide.2 ?_))⟩
  have hR := init_rel fn.ntmps hold hreps
  refine wp_mono (awpN_sound hm (by omega) rfl ls c hw hR h) fun e a w' he => ?_
  obtain ⟨B', hB, e', s, rfl, ⟨L, m, R⟩, he⟩ := he
  have fin0 : ∀ {a2 : Act} {w2 : World}, RelC ⟨w, fun _ => False, []⟩ S F (vals.size + (fn.ntmps - vals.size)) L m s a2 w2 → retE P rs ts s post → ∃ v, (results fn a2.tmps).run P w2 = .ok v w2 ∧ ∃ r v' L, post r ∧ Ending.returned v = .returned v' ∧
      Rep ⟨w2, S, F, L, fun _ => undef, fun _ => False⟩ true (.own base) r v' ∧ (∀ b p, L b = some p → w.heap.size ≤ b ∧ b < w2.heap.size) ∧ Below w.heap.size w w2 := fun R he => by
    obtain ⟨v, h1, r, L', h2, h3, h4⟩ := ret_fin R hr he base
    refine ⟨v, h1, r, v, L', h2, rfl, h3, fun b p hb => ?_, R.below.below (fun _ h => h)⟩
    obtain ⟨p', hp'⟩ := Option.isSome_iff_exists.1 (h4 b p hb)
    exact ⟨(R.lab b p' hp').1.elim id False.elim, (R.lab b p' hp').2⟩
  have fin : retE P rs ts s post → LeavesInM Fence.wide 3 P fn a.tmps (fun e w' => ∃ r v L, post r ∧ e = .returned v ∧ Rep ⟨w', S, F, L, fun _ => undef, fun _ => False⟩ true (.own base) r v ∧ (∀ b p, L b = some p → w.heap.size ≤ b ∧ b < w'.heap.size) ∧ Below w.heap.size w w') a.defers .returning w' := fun he => by
    rcases hB with rfl | ⟨D, hE⟩
    · rw [show a.defers = [] from R.defers]
      exact fin0 R he
    · rw [show a.defers = [markD D] from R.defers.trans hE.df]
      have hk : w'.heap[D]? = some (.deferred (some [])) := (R.below.block D hE.not).trans hE.blk
      have hne : ∀ b, B'.ok b ∨ b < w.heap.size → b ≠ D := fun b hb e => by
        subst e
        rcases hb with hb | hb
        · exact hE.not hb
        · exact absurd hE.new (Nat.not_le_of_lt hb)
      refine ⟨by simp, .inl ⟨D, _, rfl, run_takeDeferred hk, ?_⟩⟩
      have hbel : Bs.bel ⟨w, fun _ => False, []⟩ w' := Bs.bel.trans hE.bel (mu := B'.mu) (df := B'.df) R.below hE.sub
      have hg := grownBy_putObj' w' D (.deferred none)
      have R2 : RelC ⟨w, fun _ => False, []⟩ S F (vals.size + (fn.ntmps - vals.size)) L m s { a with defers := [] } (w'.putObj D (.deferred none)) := by
        refine R.re rfl rfl (fun b hb => World.putObj_heap_other ?_) (by simp) (fun b p hp => ?_) (fun b hb hok => ?_) ⟨hbel.os, hbel.tape, hbel.output, by simpa using hbel.size, fun k hk => (World.putObj_heap_other ?_).trans (hbel.block k hk)⟩
        · rcases hb with hb | hb
          · obtain ⟨p, hp⟩ := Option.isSome_iff_exists.1 hb
            exact hne b (.inl (R.lab b p hp).1)
          · exact hne b (.inr (hold b hb))
        · rcases (R.lab b p hp).1 with h | h
          · exact .inl (Nat.le_trans hE.bel.size h)
          · exact hE.sub b h
        · rcases hok with h | h
          · exact absurd (hold b hb) (Nat.not_lt_of_le h)
          · exact h
        · exact hne k (.inr (Nat.lt_of_not_le fun h => hk (.inl h)))
      exact fin0 (a2 := { a with defers := [] }) R2 he
  cases e' with
  | normal => exact fin he
  | ret => exact fin he
  | exit i => exact False.elim he
theorem Bs.bel.put {B : Bs} {w : World} (h : B.bel w) {l : Nat} (hl : B.ok l) (o : Obj) : B.bel (w.putObj l o) :=
  ⟨h.os, h.tape, h.output, by simpa using h.size, fun k hk => (World.putObj_heap_other (fun e => by subst e; exact hk hl)).trans (h.block k hk)⟩
theorem Bs.bel.alloc {B : Bs} {w : World} (h : B.bel w) (o : Obj) : B.bel (w.alloc o) :=
  ⟨h.os, h.tape, h.output, by simpa using Nat.le_succ_of_le h.size, fun k hk => (Below.heap_alloc w o k (Nat.lt_of_lt_of_le (Bs.lt hk) h.size)).trans (h.block k hk)⟩
def pieceV (b off len i : Nat) : Value := .slice (some ⟨b, off + 100 * i, none⟩) (min 100 (len - 100 * i)) (min 100 (len - 100 * i))
def RoundQ (vals : Nat → Value) (ks : List Nat) (K : (Id → Option OB) → Prop) : Ex → St → Prop
  | .normal, s => pinsOk vals ks s.σ ∧ K s.σ
  | _, _ => False
structure Chunks (P : Program) (cf gf t1 t2 : Nat) : Prop where
  ent : (match P.funcs[cf]? with | some fn => fn.body.isSome && fn.name != "runtime.NumGoroutine" | none => false) = true
  enters : ∀ args w, (callFunc gf args).run P w = .ok (.enter gf args) w
  made : ∀ (a : Option Addr) (len cap : Nat) (w : World), Calls P cf #[.slice a len cap, .int .i64 100] w fun e w' => e = .returned (.func (.func gf) #[] #[.pointer (some ⟨w.heap.size, 0, none⟩), .pointer (some ⟨w.heap.size + 1, 0, none⟩)]) ∧ w' = (w.alloc (.cells #[.slice a len cap] t1)).alloc (.cells #[.int .i64 100] t2)
  goes : ∀ (l B1 B2 b off len cap : Nat), len ≤ 1048576 → len ≤ cap → ∀ (J : Nat → World → Prop), (∀ i w, J i w → J i w.drew) →
    (∀ i w, J i w → w.cell? ⟨B1, 0, none⟩ = some (.slice (some ⟨b, off, none⟩) len cap) ∧ w.cell? ⟨B2, 0, none⟩ = some (.int .i64 100)) →
    (∀ i W, J i W → 100 * i < len → YieldAt Fence.wide 1 P l #[pieceV b off len i] W fun e W' => e = .returned (.bool true) ∧ J (i + 1) W') → ∀ (W : World), J 0 W →
    CallsIn Fence.wide 2 P gf #[.func (.yield l) #[] #[], .pointer (some ⟨B1, 0, none⟩), .pointer (some ⟨B2, 0, none⟩)] W fun e W' => (∃ v, e = .returned v) ∧ J ((len + 99) / 100) W'
section
variable {P : Program} {H : Nat → Nat}
theorem RangeE.chunk {O : Nat → List Nat} {N0 cf gf t1 t2 : Nat} (hm : P.follows .mixedOrders = true) (hC : Chunks P cf gf t1 t2) {rid bi x g p e : Nat} {o1 o2 : Oper} {y : Operand} {ts : Array TypeId} {assign body : Code} {s : St} {K : St → Prop} {els : List (List AV)}
    (hg1 : o1.guard = none) (hg2 : o2.guard = none) (hd1 : o1.dst = some x) (hd2 : o2.dst = some g) (ho1 : o1.op = .move y) (ho2 : o2.op = .call ⟨.value (.func cf), #[.tmp x, .const (.int .i64 100)], ts⟩)
    (hn : (decide (x < N0) && decide (g < N0) && decide (p < N0) && (wfCode O N0 assign && wfRound O assign) && (wfCode O N0 body && wfRound O body)) = true)
    (hy : s.ev y = .rd .ent e 1 els) (hpos : 0 < els.length) (hle : els.length ≤ 1048576) (ks : List Nat) (I : (Nat → Value) → Nat → (Id → Option OB) → Prop)
    (h0 : ∀ vals, pinsOk vals ks (pinAll vals ks ((s.put (some x) (.rd .ent e 1 els)).put (some g) .any)).σ ∧ I vals 0 (pinAll vals ks ((s.put (some x) (.rd .ent e 1 els)).put (some g) .any)).σ)
    (hround : ∀ vals i σ, 100 * i < els.length → I vals i σ → awp P H O assign ⟨upd (pinEnv ks σ) p (.rd .ent e 1 ((els.drop (100 * i)).take 100)), σ⟩ (Ex.then (fun s' => awp P H O body s' (RoundQ vals ks (I vals (i + 1)))) (RoundQ vals ks (I vals (i + 1)))))
    (hend : ∀ vals σ, I vals ((els.length + 99) / 100) σ → K ⟨pinEnv ks σ, σ⟩) :
    RangeE P N0 (.seq (.region rid #[o1, o2] false) (.block bi (.rangeFunc (.tmp g) #[p] assign body))) s K := by
  intro B S F n a w hN hdf ⟨L, m, R⟩
  simp only [Bool.and_eq_true, decide_eq_true_eq] at hn
  obtain ⟨⟨⟨⟨hx, hgN⟩, hp⟩, hwa⟩, hwb⟩ := hn
  refine wp_seq (wp_region_list ?_)
  show wpList P _ _ [o1, o2] a w
  have hop : opE P H o1.dst o1.op s (fun s' => s' = s.put (some x) (.rd .ent e 1 els)) := by rw [ho1, hd1]; show s.put (some x) (s.ev y) = _; rw [hy]
  rw [wpList, if_pos (by simp [Region.wanted, hg1])]
  refine .inl (Oper.wp_mono (fun a1 w1 hh => ?_) (op_sound (by rw [hd1]; exact Nat.lt_of_lt_of_le hx hN) R hop _))
  obtain ⟨⟨s1, ⟨L1, m1, R1⟩, rfl⟩, _⟩ := hh
  rw [wpList, if_pos (by simp [Region.wanted, hg2])]
  left
  unfold Oper.wp
  rw [run_enter ho2 hC.ent]
  have hev := R1.env x
  have hev : Rep (cx w1 S F L1 m1 (s.put (some x) (.rd .ent e 1 els)).σ) false (.read .ent) (.rd .ent e 1 els) (a1.tmps.getD x undef) := by
    have e1 : (s.put (some x) (AV.rd .ent e 1 els)).env x = .rd .ent e 1 els := by show upd _ _ _ _ = _; simp [upd, sel]
    rwa [e1] at hev
  obtain ⟨_, _, A, cap, hA, hcap, hbig, hrow⟩ := hev
  obtain ⟨b, off, rfl, hSb, hels⟩ := hrow.resolve_left (fun h => by rw [h] at hpos; exact absurd hpos (Nat.lt_irrefl 0))
  have hSb : S b := hSb
  show Calls P cf ((#[Operand.tmp x, .const (.int .i64 100)] : Array Operand).map a1.eval) w1 _
  rw [show (#[Operand.tmp x, .const (.int .i64 100)] : Array Operand).map a1.eval = #[.slice (some ⟨b, off, none⟩) els.length cap, .int .i64 100] by
    simp only [List.map_toArray, List.map_cons, List.map_nil]
    rw [show a1.eval (.tmp x) = _ from hA]; rfl]
  refine Calls.mono (hC.made _ _ _ w1) ?_
  rintro _ w2 ⟨rfl, rfl⟩
  obtain ⟨w2, hw2⟩ : ∃ w2, (w1.alloc (.cells #[.slice (some ⟨b, off, none⟩) els.length cap] t1)).alloc (.cells #[.int .i64 100] t2) = w2 := ⟨_, rfl⟩
  obtain ⟨b1, hb1⟩ : ∃ b1, w1.heap.size = b1 := ⟨_, rfl⟩
  rw [hw2, hb1]
  have hsz2 : w2.heap.size = b1 + 2 := by rw [← hw2, ← hb1]; simp
  have hold2 : ∀ k, k < b1 → w2.heap[k]? = w1.heap[k]? := fun k hk => by
    rw [← hw2]
    exact (Below.heap_alloc _ _ k (by rw [World.size_alloc]; omega)).trans (Below.heap_alloc _ _ k (by omega))
  have hc1 : w2.heap[b1]? = some (.cells #[.slice (some ⟨b, off, none⟩) els.length cap] t1) := by
    rw [← hw2]
    refine (Below.heap_alloc _ _ b1 (by rw [World.size_alloc]; omega)).trans ?_
    rw [← hb1]; exact World.alloc_heap_new w1 _
  have hc2 : w2.heap[b1 + 1]? = some (.cells #[.int .i64 100] t2) := by
    rw [← hw2]
    have := World.alloc_heap_new (w1.alloc (.cells #[.slice (some ⟨b, off, none⟩) els.length cap] t1)) (.cells #[.int .i64 100] t2)
    rwa [World.size_alloc, hb1] at this
  have hB1 : B.w.heap.size ≤ b1 := by rw [← hb1]; exact R1.below.size
  have hbel2 : B.bel w2 := by rw [← hw2]; exact (R1.below.alloc _).alloc _
  have hlt1 : ∀ k q, L1 k = some q → k < b1 := fun k q hq => by rw [← hb1]; exact (R1.lab k q hq).2
  have hSlt : ∀ k, S k ∨ F k → k < b1 := fun k hk => Nat.lt_of_lt_of_le (Bs.lt (R1.old k hk)) hB1
  have R2 : RelC B S F n L1 m1 (s.put (some x) (.rd .ent e 1 els)) a1 w2 := by
    refine R1.re rfl R1.defers (fun k hk => hold2 k ?_) (by omega) (fun k q h => (R1.lab k q h).1) R1.old hbel2
    rcases hk with hk | hk
    · obtain ⟨q, hq⟩ := Option.isSome_iff_exists.1 hk
      exact hlt1 k q hq
    · exact hSlt k hk
  show wpList P _ _ [] (a1.put o2.dst _) w2
  rw [hd2]
  obtain ⟨a2, ha2⟩ : ∃ a2, a1.put (some g) (.func (.func gf) #[] #[.pointer (some ⟨b1, 0, none⟩), .pointer (some ⟨b1 + 1, 0, none⟩)]) = a2 := ⟨_, rfl⟩
  rw [ha2]
  have hgn : g < n := Nat.lt_of_lt_of_le hgN hN
  have R2 : RelC B S F n L1 m1 ((s.put (some x) (.rd .ent e 1 els)).put (some g) .any) a2 w2 := by
    rw [← ha2]; exact R2.put (d := some g) hgn (x := .any) trivial
  have hga : a2.eval (.tmp g) = .func (.func gf) #[] #[.pointer (some ⟨b1, 0, none⟩), .pointer (some ⟨b1 + 1, 0, none⟩)] := by
    rw [← ha2]
    show (a1.tmps.setIfInBounds g _).getD g undef = _
    have : g < a1.tmps.size := by rw [R1.size]; exact hgn
    simp [Array.getD, this]
  have hels2 : RepEls (cx w2 S F L1 m1 s.σ) (.read .ent) b off 0 1 els := by
    have hst : Stays (cx w1 S F L1 m1 (s.put (some x) (.rd .ent e 1 els)).σ) (cx w2 S F L1 m1 s.σ) := ⟨fun k h => ⟨h, hold2 k (hSlt k (.inl h))⟩, fun k h => ⟨h, hold2 k (hSlt k (.inr h))⟩⟩
    exact RepEls.tr hst (hst.org .ent rfl) els (hold2 b (hSlt b (.inl hSb))) (.inl rfl) hels
  clear hels hA ha2 R1 hold2 hw2
  show (Code.block bi _).wp P _ a2 w2
  -- the slots are pinned
  obtain ⟨vals, hvals⟩ : ∃ vals : Nat → Value, (fun k => a2.tmps.getD k undef) = vals := ⟨_, rfl⟩
  have R3 := R2.pinAll ks
  rw [hvals] at R3
  obtain ⟨hpin0, hI0⟩ := h0 vals
  have hsize : a2.tmps.size = n := R2.size
  have hdf2 : a2.defers = [] := R2.defers.trans hdf
  have R4 := R3.back (ks := ks) (a2 := a2) hsize R3.defers (by rw [hvals]; exact hpin0)
  generalize (pinAll vals ks ((s.put (some x) (.rd .ent e 1 els)).put (some g) .any)).σ = σ0 at hpin0 hI0 R4
  clear R3 h0
  obtain ⟨tm, df⟩ := a2
  obtain rfl : df = [] := hdf2
  simp only at hvals hsize
  -- the loop
  refine (wpIn_wide (n := 3)).1 (wpIn_block (wpIn_rangeFunc ?_))
  intro fn hfn
  obtain ⟨rec, hrec⟩ : ∃ rec : LoopState → Option Code → Loop, rec = fun st pe => { state := st, pending := pe, fn, tmps := tm, params := #[p], assign, body, defers := w2.heap.size } := ⟨_, rfl⟩
  obtain ⟨W1, hW1⟩ : ∃ W1, (w2.alloc (.deferred (some []))).alloc (.loop (rec .ready none)) = W1 := ⟨_, rfl⟩
  obtain ⟨D, hD⟩ : ∃ D, w2.heap.size = D := ⟨_, rfl⟩
  rw [hD] at hrec
  have hDb : D = b1 + 2 := by omega
  have hszW1 : W1.heap.size = D + 2 := by rw [← hW1, ← hD]; simp
  have hL1 : W1.heap[D + 1]? = some (.loop (rec .ready none)) := by
    rw [← hW1]; have := World.alloc_heap_new (w2.alloc (.deferred (some []))) (.loop (rec .ready none)); rwa [World.size_alloc, hD] at this
  have hK1 : W1.heap[D]? = some (.deferred (some [])) := by
    rw [← hW1]; exact (Below.heap_alloc _ _ _ (by rw [World.size_alloc]; omega)).trans (by rw [← hD]; exact World.alloc_heap_new w2 _)
  have holdW1 : ∀ k, k < D → W1.heap[k]? = w2.heap[k]? := fun k hk => by
    rw [← hW1]
    exact (Below.heap_alloc _ _ k (by rw [World.size_alloc]; omega)).trans (Below.heap_alloc _ _ k (by omega))
  have hbelW1 : B.bel W1 := by rw [← hW1]; exact (hbel2.alloc _).alloc _
  have okD : ∀ k, b1 ≤ k → B.ok k := fun k hk => .inl (Nat.le_trans hB1 hk)
  -- what holds between two rounds
  let J : Nat → World → Prop := fun i W => ∃ σ L' m', RelC B S F n L' m' ⟨pinEnv ks σ, σ⟩ { tmps := tm, defers := [] } W ∧ pinsOk vals ks σ ∧ I vals i σ ∧ (∀ k, b1 ≤ k → k < D + 2 → L' k = none) ∧ D + 2 ≤ W.heap.size ∧
    W.heap[D + 1]? = some (.loop (rec .ready none)) ∧ W.heap[D]? = some (.deferred (some [])) ∧ W.heap[b1]? = some (.cells #[.slice (some ⟨b, off, none⟩) els.length cap] t1) ∧ W.heap[b1 + 1]? = some (.cells #[.int .i64 100] t2)
  have hJ0 : J 0 W1 := by
    refine ⟨σ0, L1, m1, ?_, hpin0, hI0, fun k hk _ => ?_, by omega, hL1, hK1, (holdW1 _ (by omega)).trans hc1, (holdW1 _ (by omega)).trans hc2⟩
    · refine R4.re rfl R4.defers (fun k hk => holdW1 k ?_) (by omega) (fun k q h => (R4.lab k q h).1) R4.old hbelW1
      rcases hk with hk | hk
      · obtain ⟨q, hq⟩ := Option.isSome_iff_exists.1 hk
        have := hlt1 k q hq; omega
      · have := hSlt k hk; omega
    · cases hq : L1 k with
      | none => rfl
      | some q => exact absurd (hlt1 k q hq) (by omega)
  refine ⟨D + 1, [markD D], W1, { target := .fn (.func gf) #[.pointer (some ⟨b1, 0, none⟩), .pointer (some ⟨b1 + 1, 0, none⟩)], args := #[.func (.yield (D + 1)) #[] #[]] }, W1, gf,
    #[.func (.yield (D + 1)) #[] #[]] ++ #[.pointer (some ⟨b1, 0, none⟩), .pointer (some ⟨b1 + 1, 0, none⟩)], W1, ?_, ?_, fun _ _ => trivial, ?_, fun _ => by omega, ?_⟩
  · rw [← hW1, hrec, ← hD]; exact run_enterLoop_outer _ _ _ _ _
  · simp only [resolve, hga]
    simp [go_sem]
  · simp [invoke, go_sem, hC.enters]
  · refine (hC.goes (D + 1) b1 (b1 + 1) b off els.length cap hle hcap J ?_ ?_ ?_ W1 hJ0).mono ?_
    · rintro i W ⟨σ, L', m', Rj, h1, h2, h3, h4, h5, h6, h7, h8⟩
      exact ⟨σ, L', m', Rj.drew, h1, h2, h3, h4, h5, h6, h7, h8⟩
    · rintro i W ⟨σ, L', m', Rj, h1, h2, h3, h4, h5, h6, h7, h8⟩
      exact ⟨by simp [World.cell?, h7], by simp [World.cell?, h8]⟩
    · -- ONE ROUND
      rintro i W ⟨σ, L', m', Rj, hpins, hI, hnL, hszW, hlW, hDW, hb1W, hb2W⟩ hlen
      have hy : (Instr.yield (D + 1) #[pieceV b off els.length i]).run P W = .ok (.round (D + 1) fn (tm.setIfInBounds p (pieceV b off els.length i)) assign body) W := by
        have := run_yield (P := P) (args := #[pieceV b off els.length i]) hlW (by rw [hrec]; rfl)
        rw [hrec] at this
        simpa using this
      refine ⟨fn, _, assign, body, hy, roundIn_of_wpIn hfn ?_⟩
      obtain ⟨q, hq⟩ : ∃ q : AV, AV.rd .ent e 1 ((els.drop (100 * i)).take 100) = q := ⟨_, rfl⟩
      have hstW : Stays (cx w2 S F L1 m1 s.σ) (cx W S F L' m' σ) := by
        have hh : ∀ k, S k ∨ F k → W.heap[k]? = w2.heap[k]? := fun k hk => (Rj.below.block k (Rj.old k hk)).trans (hbel2.block k (Rj.old k hk)).symm
        exact ⟨fun k h => ⟨h, hh k (.inl h)⟩, fun k h => ⟨h, hh k (.inr h)⟩⟩
      have hRq : Rep (cx W S F L' m' σ) false (.read .ent) q (pieceV b off els.length i) := by
        rw [← hq]
        have h1 := RepEls.tr hstW (hstW.org .ent rfl) els (hstW.ent b hSb).2 (q' := 0) (.inl rfl) hels2
        have h2 := ((h1.drop (100 * i)).q0 0).take 100
        have hl2 : ((els.drop (100 * i)).take 100).length = min 100 (els.length - 100 * i) := by simp
        refine ⟨rfl, ⟨trivial, trivial⟩, _, _, by unfold pieceV; rw [hl2], by rw [hl2]; exact Nat.le_refl _, by rw [hl2]; unfold BIG; omega, .inr ⟨b, off + 100 * i, rfl, hSb, ?_⟩⟩
        simpa using h2
      have Rw := Rj.anew [] (a2 := { tmps := tm, defers := [] }) rfl rfl
      have Rp := Rw.put (d := some p) (show p < n from Nat.lt_of_lt_of_le hp hN) hRq
      have nok : ∀ k, b1 ≤ k → k < D + 2 → ¬ Bs.ok ⟨W, fun b => (L' b).isSome = true, []⟩ k := fun k h1 h2 hok => by
        rcases hok with h | h
        · exact absurd h (by show ¬ W.heap.size ≤ k; omega)
        · have h : (L' k).isSome = true := h
          rw [hnL k h1 h2] at h; cases h
      have hr := hround vals i σ hlen hI
      rw [hq] at hr
      refine awp_soundR hm (D + 1) 1 assign (wf_mono hN hwa.1) hwa.2 (Q := Exit.then _ (fun _ _ _ => False)) (fun ⟨a, w, h⟩ => h) ⟨L', m', Rp⟩ hr fun ee s1 a1 w1' hR1 he => ?_
      cases ee with
      | exit _ => exact False.elim he
      | ret => exact False.elim he
      | normal =>
      obtain ⟨La, ma, Ra⟩ := hR1
      have same1 : ∀ k, b1 ≤ k → k < D + 2 → w1'.heap[k]? = W.heap[k]? := fun k h1 h2 => Ra.below.block k (nok k h1 h2)
      have hl1 := (same1 (D + 1) (by omega) (by omega)).trans hlW
      refine ⟨_, run_beginRound hl1 (by rw [hrec]), ?_⟩
      obtain ⟨w2', hw2'⟩ : ∃ w2', w1'.putObj (D + 1) (.loop { rec .ready none with state := .busy }) = w2' := ⟨_, rfl⟩
      rw [hw2']
      have hszw1 : W.heap.size ≤ w1'.heap.size := Ra.below.size
      have hszw2 : w2'.heap.size = w1'.heap.size := by rw [← hw2']; simp
      have oth2 : ∀ k, k ≠ D + 1 → w2'.heap[k]? = w1'.heap[k]? := fun k hk => by rw [← hw2']; exact World.putObj_heap_other hk
      have hl2 : w2'.heap[D + 1]? = some (.loop { rec .ready none with state := .busy }) := by rw [← hw2']; exact World.putObj_heap_same (by omega)
      have naL : ∀ k, b1 ≤ k → k < D + 2 → La k = none := fun k h1 h2 => by
        cases hh : La k with
        | none => rfl
        | some q' => exact absurd (Ra.lab k q' hh).1 (nok k h1 h2)
      have SFlt : ∀ k, S k ∨ F k → k < b1 := fun k hk => Nat.lt_of_lt_of_le (Bs.lt (Rj.old k hk)) hB1
      have Rb : RelC ⟨w2', fun b => (La b).isSome = true, []⟩ S F n La ma s1 a1 w2' := by
        refine Ra.re rfl Ra.defers (fun k hk => oth2 k ?_) (by omega) (fun k q' h => .inr (by show (La k).isSome = true; rw [h]; rfl)) (fun k hk hok => ?_) (Bs.bel.refl _)
        · rintro rfl
          rcases hk with hk | hk
          · rw [naL (D + 1) (by omega) (by omega)] at hk; cases hk
          · have := SFlt _ hk; omega
        · have h1 := SFlt k hk
          rcases hok with h | h
          · exact absurd h (by show ¬ w2'.heap.size ≤ k; omega)
          · obtain ⟨q', hq'⟩ := Option.isSome_iff_exists.1 h
            exact Ra.old k hk (Ra.lab k q' hq').1
      have nok2 : ∀ k, b1 ≤ k → k < D + 2 → ¬ Bs.ok ⟨w2', fun b => (La b).isSome = true, []⟩ k := fun k h1 h2 hok => by
        rcases hok with h | h
        · exact absurd h (by show ¬ w2'.heap.size ≤ k; omega)
        · have h : (La k).isSome = true := h
          rw [naL k h1 h2] at h; cases h
      refine awp_soundR hm (D + 1) 1 body (wf_mono hN hwb.1) hwb.2 (Q := roundPost P (D + 1) _) (fun ⟨a, w, h⟩ => h) ⟨La, ma, Rb⟩ he fun ee s3 a3 w3 hR3 he3 => ?_
      cases ee with
      | exit _ => exact False.elim he3
      | ret => exact False.elim he3
      | normal =>
      obtain ⟨Lb, mb, Rc⟩ := hR3
      obtain ⟨hp3, hI3⟩ := he3
      have same3 : ∀ k, b1 ≤ k → k < D + 2 → w3.heap[k]? = w2'.heap[k]? := fun k h1 h2 => Rc.below.block k (nok2 k h1 h2)
      have hl3 := (same3 (D + 1) (by omega) (by omega)).trans hl2
      refine ⟨_, _, run_endRound none hl3, rfl, ?_⟩
      have hszw3 : w2'.heap.size ≤ w3.heap.size := Rc.below.size
      have nbL : ∀ k, b1 ≤ k → k < D + 2 → Lb k = none := fun k h1 h2 => by
        cases hh : Lb k with
        | none => rfl
        | some q' => exact absurd (Rc.lab k q' hh).1 (nok2 k h1 h2)
      have bel3 : B.bel w3 := by
        have h1 : B.bel w1' := Bs.bel.trans Rj.below (mu := fun b => (L' b).isSome = true) (df := []) Ra.below fun k hk => by
          obtain ⟨q', hq'⟩ := Option.isSome_iff_exists.1 hk
          exact (Rj.lab k q' hq').1
        have h2 : B.bel w2' := by rw [← hw2']; exact h1.put (okD _ (by omega)) _
        refine Bs.bel.trans h2 (mu := fun b => (La b).isSome = true) (df := []) Rc.below fun k hk => ?_
        obtain ⟨q', hq'⟩ := Option.isSome_iff_exists.1 hk
        rcases (Ra.lab k q' hq').1 with h | h
        · exact .inl (Nat.le_trans Rj.below.size h)
        · obtain ⟨q2, hq2⟩ := Option.isSome_iff_exists.1 h
          exact (Rj.lab k q2 hq2).1
      have Rd := Rc.back (ks := ks) (a2 := { tmps := tm, defers := [] }) hsize rfl (by simp only [hvals]; exact hp3)
      refine ⟨s3.σ, Lb, mb, ?_, hp3, hI3, nbL, by simp; omega, ?_, (World.putObj_heap_other (by omega)).trans ((same3 D (by omega) (by omega)).trans ((oth2 D (by omega)).trans ((same1 D (by omega) (by omega)).trans hDW))),
        (World.putObj_heap_other (by omega)).trans ((same3 b1 (by omega) (by omega)).trans ((oth2 b1 (by omega)).trans ((same1 b1 (by omega) (by omega)).trans hb1W))),
        (World.putObj_heap_other (by omega)).trans ((same3 (b1 + 1) (by omega) (by omega)).trans ((oth2 (b1 + 1) (by omega)).trans ((same1 (b1 + 1) (by omega) (by omega)).trans hb2W)))⟩
      · refine Rd.re rfl hdf.symm (fun k hk => World.putObj_heap_other ?_) (by simp) (fun k q' h => ?_) Rj.old (bel3.put (okD _ (by omega)) _)
        · rintro rfl
          rcases hk with hk | hk
          · rw [nbL (D + 1) (by omega) (by omega)] at hk; cases hk
          · have := SFlt _ hk; omega
        · rcases (Rd.lab k q' h).1 with h | h
          · have h : w2'.heap.size ≤ k := h
            have := Rj.below.size
            exact .inl (by omega)
          · obtain ⟨q2, hq2⟩ := Option.isSome_iff_exists.1 h
            rcases (Ra.lab k q2 hq2).1 with h | h
            · exact .inl (Nat.le_trans Rj.below.size h)
            · obtain ⟨q3, hq3⟩ := Option.isSome_iff_exists.1 h
              exact (Rj.lab k q3 hq3).1
      · rw [World.putObj_heap_same (by omega), hrec]; rfl
    · -- BEHIND IT
      rintro _ W ⟨⟨v, rfl⟩, σ, L', m', Rj, hpins, hI, hnL, hszW, hlW, hDW, hb1W, hb2W⟩
      refine ⟨none, _, by have := run_endLoop (P := P) hlW (by rw [hrec]; simp); rw [hrec] at this; exact this, ?_⟩
      obtain ⟨o, ho⟩ : ∃ o, Obj.loop { (rec .ready none) with state := .exhausted } = o := ⟨_, rfl⟩
      rw [hrec] at ho
      simp only at ho
      show Exit.inBlock bi (PostK B S F n K) .normal _ _
      show PostK B S F n K .normal { tmps := tm, defers := [markD D] ++ [] } _
      have nok : ∀ k, b1 ≤ k → k < D + 2 → ¬ Bs.ok ⟨W.putObj (D + 1) (.loop { state := .exhausted, pending := none, fn, tmps := tm, params := #[p], assign, body, defers := D }), fun b => (L' b).isSome = true, [markD D]⟩ k := fun k h1 h2 hok => by
        rcases hok with h | h
        · exact absurd h (by simp; omega)
        · have h : (L' k).isSome = true := h
          rw [hnL k h1 h2] at h; cases h
      refine ⟨⟨_, fun b => (L' b).isSome = true, [markD D]⟩, .inr ⟨D, ⟨rfl, by omega, nok D (by omega) (by omega), (World.putObj_heap_other (by omega)).trans hDW, Rj.below.put (okD _ (by omega)) _, fun k hk => ?_⟩⟩, ⟨pinEnv ks σ, σ⟩, ⟨L', m', ?_⟩, hend vals σ hI⟩
      · obtain ⟨q', hq'⟩ := Option.isSome_iff_exists.1 hk
        exact (Rj.lab k q' hq').1
      · refine Rj.re rfl rfl (fun k hk => World.putObj_heap_other ?_) (by simp) (fun k q' h => .inr (by show (L' k).isSome = true; rw [h]; rfl)) (fun k hk hok => ?_) (Bs.bel.refl _)
        · rintro rfl
          rcases hk with hk | hk
          · rw [hnL (D + 1) (by omega) (by omega)] at hk; cases hk
          · have := hSlt _ hk; omega
        · have h1 := hSlt k hk
          rcases hok with h | h
          · exact absurd h (by simp; omega)
          · obtain ⟨q', hq'⟩ := Option.isSome_iff_exists.1 h
            exact Rj.old k hk (Rj.lab k q' hq').1
end
section
variable {P : Program} {H : Nat → Nat}
end
theorem awpN_nil (P : Program) (H : Nat → Nat) (O : Nat → List Nat) (N0 : Nat) (a b : Code) (s : St) (Q : Ex → St → Prop) : awpN P H O N0 [] (.seq a b) s Q = RangeE P N0 a s fun s' => awp P H O b s' Q := rfl
theorem awpN_cons (P : Program) (H : Nat → Nat) (O : Nat → List Nat) (N0 k : Nat) (l : List Nat) (a b : Code) (s : St) (Q : Ex → St → Prop) : awpN P H O N0 (k :: l) (.seq a b) s Q = awp P H O a s (Ex.then (fun s' => awpN P H O N0 l b s' Q) Q) := rfl
theorem RoundQ_normal (vals : Nat → Value) (ks : List Nat) (K : (Id → Option OB) → Prop) (e : Nat → AV) (σ : Id → Option OB) : RoundQ vals ks K .normal ⟨e, σ⟩ = (pinsOk vals ks σ ∧ K σ) := rfl
theorem pinEnv_nil (σ : Id → Option OB) (d : Nat) : pinEnv [] σ d = .any := rfl
theorem pinEnv_cons (k : Nat) (ks : List Nat) (σ : Id → Option OB) (d : Nat) : pinEnv (k :: ks) σ d = sel (d == k) (pinOf (σ [2000000, k])) (pinEnv ks σ d) := rfl
theorem pinsOk_nil (vals : Nat → Value) (σ : Id → Option OB) : pinsOk vals [] σ = True := rfl
theorem pinsOk_cons (vals : Nat → Value) (k : Nat) (ks : List Nat) (σ : Id → Option OB) : pinsOk vals (k :: ks) σ = (pinV (σ [2000000, k]) (vals k) ∧ pinsOk vals ks σ) := rfl
theorem pinAll_nil (vals : Nat → Value) (s : St) : pinAll vals [] s = s := rfl
theorem pinAll_cons (vals : Nat → Value) (k : Nat) (ks : List Nat) (s : St) : pinAll vals (k :: ks) s = pinAll vals ks (pin1 s k (vals k)) := rfl
theorem pin1_eq (e : Nat → AV) (σ : Id → Option OB) (k : Nat) (x : Value) : pin1 ⟨e, σ⟩ k x = ⟨killE e [[2000000, k]] [[2000000, k]], updS (killS σ [[2000000, k]] [[2000000, k]]) [2000000, k] (.pin ((e k).kill [[2000000, k]] [[2000000, k]]) x)⟩ := rfl
attribute [go_sem] awpN_nil awpN_cons RoundQ_normal pinEnv_nil pinEnv_cons pinsOk_nil pinsOk_cons pinAll_nil pinAll_cons pin1_eq
end Go.Ev
