/- The evaluator, part 3: contracts, operations, code. -/
import Derived.Test.YtijmbcnhkdhkeaaEvb
set_option linter.unusedVariables false
set_option linter.unusedSimpArgs false
namespace Go.Ev
open Go Go.RowKit

/-! ### contracts -/
/-- FUNCTION f, CALLED WITH WHATEVER LOOKS LIKE args, RETURNS WHAT LOOKS LIKE SOME r WITH post r; all rows of r are new memory, no two the same; nothing that was there turns. r may show pieces of what came in. -/
structure Meets (P : Program) (f : FuncId) (args : List AV) (post : AV → Prop) : Prop where
  enters : (match P.funcs[f]? with | some fn => fn.body.isSome && fn.name != "runtime.NumGoroutine" | none => false) = true
  runs : ∀ (w : World) (S F : Nat → Prop) (base : Id) (vals : Array Value), (∀ b, S b ∨ F b → b < w.heap.size) →
    RepVs ⟨w, S, F, fun _ => none, fun _ => undef, fun _ => False⟩ true (.read .ent) 0 args vals.toList →
    Calls P f vals w fun e w' => ∃ r v L, post r ∧ e = .returned v ∧
      Rep ⟨w', S, F, L, fun _ => undef, fun _ => False⟩ true (.own base) r v ∧
      (∀ b p, L b = some p → w.heap.size ≤ b ∧ b < w'.heap.size) ∧ Below w.heap.size w w'

/-- The world a call began in, and which of its blocks the call may write. -/
structure Bs where
  w : World
  mu : Nat → Prop
def Bs.ok (B : Bs) (b : Nat) : Prop := B.w.heap.size ≤ b ∨ B.mu b
/-- What the call may not write is as it was. -/
structure Bs.bel (B : Bs) (w' : World) : Prop where
  os : w'.os = B.w.os
  tape : w'.tape = B.w.tape
  output : w'.output = B.w.output
  size : B.w.heap.size ≤ w'.heap.size
  block : ∀ k, ¬ B.ok k → w'.heap[k]? = B.w.heap[k]?
theorem Bs.bel.refl (B : Bs) : B.bel B.w := ⟨rfl, rfl, rfl, Nat.le_refl _, fun _ _ => rfl⟩
theorem Bs.bel.trans {B : Bs} {w w' : World} {mu : Nat → Prop} (h : B.bel w) (k : Bs.bel ⟨w, mu⟩ w') (hm : ∀ b, mu b → B.ok b) : B.bel w' :=
  ⟨k.os.trans h.os, k.tape.trans h.tape, k.output.trans h.output, Nat.le_trans h.size k.size, fun i hi => (k.block i (fun ho => by
    rcases ho with ho | ho
    · exact hi (.inl (Nat.le_trans h.size ho))
    · exact hi (hm i ho))).trans (h.block i hi)⟩
theorem Bs.bel.of_below {w w' : World} (h : Below w.heap.size w w') (mu : Nat → Prop) : Bs.bel ⟨w, mu⟩ w' :=
  ⟨h.os, h.tape, h.output, h.size, fun k hk => h.block k (Nat.lt_of_not_le fun e => hk (.inl e))⟩
theorem Bs.bel.below {w w' : World} {mu : Nat → Prop} (h : Bs.bel ⟨w, mu⟩ w') (hm : ∀ b, ¬ mu b) : Below w.heap.size w w' :=
  ⟨h.os, h.tape, h.output, h.size, fun k hk => h.block k (fun e => by
    rcases e with e | e
    · exact absurd hk (Nat.not_lt_of_le e)
    · exact hm k e)⟩
theorem Bs.bel.drew {B : Bs} {w : World} (h : B.bel w) : B.bel { w with drawn := w.drawn + 1 } := ⟨h.os, h.tape, h.output, h.size, h.block⟩
theorem Bs.lt {B : Bs} {b : Nat} (h : ¬ B.ok b) : b < B.w.heap.size := Nat.lt_of_not_le fun e => h (.inl e)

/-- How an argument is handed: to be read; or given, and maybe given back. -/
inductive PA where
  | rd (a : AV)
  | mu (a : AV)
def PA.mus : PA → Bool
  | .rd _ => false
  | .mu _ => true
def RepPs (C : Cx) : Nat → List PA → List Value → Prop
  | _, [], vs => vs = []
  | q, .rd a :: ps, vs => ∃ y ys, vs = y :: ys ∧ Rep C true (.read .ent) a y ∧ RepPs C (q + 1) ps ys
  | q, .mu a :: ps, vs => ∃ y ys, vs = y :: ys ∧ Rep C true (.own [q]) a y ∧ RepPs C (q + 1) ps ys
/-- FUNCTION f, CALLED SO, RETURNS r AND GIVES BACK as (what it keeps, or what was only read: any). Nothing else that was there turns. -/
structure MeetsM (P : Program) (f : FuncId) (args : List PA) (post : AV → List AV → Prop) : Prop where
  enters : (match P.funcs[f]? with | some fn => fn.body.isSome && fn.name != "runtime.NumGoroutine" | none => false) = true
  runs : ∀ (w : World) (S F : Nat → Prop) (L0 : Nat → Option Id) (base : Id) (vals : Array Value), (∀ b, S b ∨ F b → b < w.heap.size ∧ L0 b = none) → (∀ b p, L0 b = some p → b < w.heap.size) →
    RepPs ⟨w, S, F, L0, fun _ => undef, fun _ => False⟩ 0 args vals.toList →
    Calls P f vals w fun e w' => ∃ r as v L, post r as ∧ e = .returned v ∧
      Rep ⟨w', S, F, L, fun _ => undef, fun _ => False⟩ true (.own (base ++ [0])) r v ∧
      RepVs ⟨w', S, F, L, fun _ => undef, fun _ => False⟩ true (.own (base ++ [1])) 0 as vals.toList ∧
      (∀ b p, L b = some p → (w.heap.size ≤ b ∨ L0 b ≠ none) ∧ b < w'.heap.size) ∧ Bs.bel ⟨w, fun b => L0 b ≠ none⟩ w'

def coeRow : Option OB → Option AV
  | some (.row e sz els) => some (.row e sz els)
  | _ => none
/-- What a caller's value looks like to a function that lends nothing. -/
def St.coe (s : St) : AV → Option AV
  | .any => some .any
  | .v u => some (.v u)
  | .rd _ e sz els => some (.row e sz els)
  | .ref id => coeRow (s.σ id)
  | _ => none
def St.coeL (s : St) : List AV → Option (List AV)
  | [] => some []
  | c :: cs => bindO (s.coe c) fun c' => bindO (s.coeL cs) fun cs' => some (c' :: cs')
/-- A variable, as one who only reads it sees it. -/
def coeBox (s : St) : Option OB → Option AV
  | some (.box t cs) => bindO (s.coeL cs) fun cs' => some (.bx t cs')
  | _ => none
def St.coeK (s : St) : AV → Option AV
  | .rp _ t sz [cs] 0 0 => sel (sz == cs.length) (some (.bx t cs)) none
  | .ptr id _ 0 0 => coeBox s (s.σ id)
  | a => s.coe a
def St.coeKL (s : St) : List AV → Option (List AV)
  | [] => some []
  | c :: cs => bindO (s.coeK c) fun c' => bindO (s.coeKL cs) fun cs' => some (c' :: cs')
def St.coeA (s : St) : AV → Option AV
  | .agg cs => bindO (s.coeL cs) fun cs' => some (.agg cs')
  | .fn f cs => bindO (s.coeKL cs) fun cs' => some (.fn f cs')
  | a => s.coeK a
/-- Handed to a function that may lend: what came in, and what nobody writes, as it is. -/
def lendC : AV → Option AV
  | .any => some .any
  | .v u => some (.v u)
  | .rd o e sz els => sel (isObj o) none (some (.rd o e sz els))
  | _ => none
def lendL : List AV → Option (List AV)
  | [] => some []
  | c :: cs => bindO (lendC c) fun c' => bindO (lendL cs) fun cs' => some (c' :: cs')
def lendA : AV → Option AV
  | .agg cs => bindO (lendL cs) fun cs' => some (.agg cs')
  | a => lendC a
def parTys (P : Program) (f : FuncId) : List TypeId := match P.funcs[f]? with | some fn => fn.params.toList | none => []
def argsE (P : Program) (s : St) (lend : Bool) : List TypeId → List AV → Option (List AV)
  | [], [] => some []
  | t :: ts, a :: as => bindO (sel lend (lendA a) (bindO (s.coeA a) fun x => some (nilA (cty P t) x))) fun a' => bindO (argsE P s lend ts as) fun as' => some (a' :: as')
  | _, _ => none

/-- What comes back: its rows are objects of the caller's from now on. -/
def opnC (id : Id) (q : Nat) : AV → AV × List (Id × OB)
  | .row e sz els => (.ref (id ++ [q]), [(id ++ [q], .row e sz els)])
  | .agg _ => (.any, [])
  | .tup _ => (.any, [])
  | .bx _ _ => (.any, [])
  | .ifc t a => (sel a.clB (.ifc t a) .any, [])
  | .fn f cs => (sel (clBL cs) (.fn f cs) .any, [])
  | a => (a, [])
def opnCs (id : Id) : Nat → List AV → List AV × List (Id × OB)
  | _, [] => ([], [])
  | q, a :: as => ((opnC id q a).1 :: (opnCs id (q + 1) as).1, (opnC id q a).2 ++ (opnCs id (q + 1) as).2)
def opnB (id : Id) (q : Nat) : AV → AV × List (Id × OB)
  | .agg cs => (.agg (opnCs (id ++ [q]) 0 cs).1, (opnCs (id ++ [q]) 0 cs).2)
  | .bx t cs => (.ptr (id ++ [q] ++ [0]) 0 0 0, (id ++ [q] ++ [0], .box t (opnCs (id ++ [q] ++ [1]) 0 cs).1) :: (opnCs (id ++ [q] ++ [1]) 0 cs).2)
  | a => opnC id q a
def opnL (id : Id) : Nat → List AV → List AV × List (Id × OB)
  | _, [] => ([], [])
  | q, a :: as => ((opnB id q a).1 :: (opnL id (q + 1) as).1, (opnB id q a).2 ++ (opnL id (q + 1) as).2)
def opnA (d : Nat) : AV → AV × List (Id × OB)
  | .row e sz els => (.ref [d], [([d], .row e sz els)])
  | .agg cs => (.agg (opnCs [d] 0 cs).1, (opnCs [d] 0 cs).2)
  | .tup cs => (.tup (opnL [d] 0 cs).1, (opnL [d] 0 cs).2)
  | .bx t cs => (.ptr [d, 0] 0 0 0, ([d, 0], .box t (opnCs [d, 1] 0 cs).1) :: (opnCs [d, 1] 0 cs).2)
  | a => opnC [] d a
def updL (σ : Id → Option OB) : List (Id × OB) → Id → Option OB
  | [] => σ
  | x :: xs => updL (updS σ x.1 x.2) xs
def St.ret (s : St) (d : Option Nat) (r : AV) : St :=
  match d with
  | some d => ⟨upd (killE s.env [[d]] [[d]]) d (opnA d r).1, updL (killS s.σ [[d]] [[d]]) (opnA d r).2⟩
  | none => s

/-! what is given -/
def cellAt (xs : List (List AV)) (i k : Nat) : Option AV := (xs[i]?).bind (·[k]?)
def setCellAt (xs : List (List AV)) (i k : Nat) (c : AV) : List (List AV) := match xs[i]? with | some cs => xs.set i (cs.set k c) | none => xs
def rowCell (sz i k : Nat) : Option OB → Option AV
  | some (.row _ sz' xs) => sel (sz' == sz) (bindO (cellAt xs i k) fun c => match c with | .row e s els => some (.row e s els) | _ => none) none
  | _ => none
def boxTC : Option OB → Option (Nat × List AV)
  | some (.box t cs) => some (t, cs)
  | _ => none
def shapeOf : Option OB → Option AV
  | some (.row e sz els) => some (.row e sz els)
  | _ => none
/-- What a cell holds that is given. -/
def St.givC (s : St) : AV → Option AV
  | .ref id => shapeOf (s.σ id)
  | .rd (.at id sz i k) _ _ _ => rowCell sz i k (s.σ id)
  | a => bindO (s.clC a) fun x => some x.1
def St.givL (s : St) : List AV → Option (List AV)
  | [] => some []
  | c :: cs => bindO (bindO (s.clC c) fun x => some x.1) fun x => bindO (s.givL cs) fun y => some (x :: y)
def St.givA (s : St) (ts : List (Option (Nat × Nat))) : AV → Option AV
  | .agg cs => bindO (s.givL cs) fun x => some (.agg (nilL ts x))
  | .ptr id _ 0 0 => bindO (boxTC (s.σ id)) fun b => bindO (s.givL b.2) fun x => some (.bx b.1 (nilL ts x))
  | a => bindO (s.givC a) fun x => some (nilC (ts.headD none) x)
/-- The objects that go. -/
def rootC : AV → List Id
  | .ref id => [id]
  | .rd (.at id _ _ _) _ _ _ => [id]
  | _ => []
def rootL : List AV → List Id
  | [] => []
  | .ref id :: cs => id :: rootL cs
  | _ :: cs => rootL cs
def rootB : Option OB → List Id
  | some (.box _ cs) => rootL cs
  | _ => []
def St.rootA (s : St) : AV → List Id
  | .agg cs => rootL cs
  | .ptr id _ _ _ => id :: rootB (s.σ id)
  | a => rootC a
def St.roots (s : St) : List PA → List AV → List Id
  | .mu _ :: ps, a :: as => s.rootA a ++ s.roots ps as
  | .rd _ :: ps, _ :: as => s.roots ps as
  | _, _ => []
/-- The variables that are given, and what comes back by its own name. -/
def ptrs : List PA → List AV → List Id
  | .mu _ :: ps, .ptr id _ _ _ :: as => id :: ptrs ps as
  | _ :: ps, _ :: as => ptrs ps as
  | _, _ => []
def chN (ps : List PA) (as : List AV) : List Id := (ptrs ps as).map (1000002 :: ·)
def rrootA : AV → List Id
  | .agg cs => rootL cs
  | .ptr id _ _ _ => [id]
  | a => rootC a
def rroots : List PA → List AV → List Id
  | .mu _ :: ps, a :: as => rrootA a ++ rroots ps as
  | .rd _ :: ps, _ :: as => rroots ps as
  | _, _ => []
def apartB (I : List Id) : List Id → Bool
  | [] => true
  | j :: J => !hit I j && apartB I J
/-- What is only read lies apart from what is given. -/
def apC (J : List Id) : AV → Bool
  | .ref id => !hit J id
  | .rd o _ _ _ => !killO J o
  | _ => true
def apL (J : List Id) : List AV → Bool
  | [] => true
  | c :: cs => apC J c && apL J cs
def apBox (J : List Id) : Option OB → Bool
  | some (.box _ cs) => apL J cs
  | _ => false
def St.apK (s : St) (J : List Id) : AV → Bool
  | .ptr id _ _ _ => !hit J id && apBox J (s.σ id)
  | .rp o _ _ _ _ _ => !killO J o
  | a => apC J a
def St.apKL (s : St) (J : List Id) : List AV → Bool
  | [] => true
  | c :: cs => s.apK J c && s.apKL J cs
def St.apA (s : St) (J : List Id) : AV → Bool
  | .agg cs => apL J cs
  | .fn _ cs => s.apKL J cs
  | a => s.apK J a
def pargE (P : Program) (s : St) (lend : Bool) (J : List Id) : List PA → List TypeId → List AV → Option (List PA)
  | [], [], [] => some []
  | .rd _ :: ps, t :: ts, a :: as => bindO (sel (s.apA J a) (sel lend (lendA a) (bindO (s.coeA a) fun x => some (nilA (cty P t) x))) none) fun a' => bindO (pargE P s lend J ps ts as) fun as' => some (.rd a' :: as')
  | .mu _ :: ps, t :: ts, a :: as => bindO (s.givA (cty P t) a) fun a' => bindO (pargE P s lend J ps ts as) fun as' => some (.mu a' :: as')
  | _, _, _ => none
/-! what comes back -/
def backAt (id : Id) (i k : Nat) (r : AV) : Option OB → List (Id × OB)
  | some (.row E sz' xs) => [(id, .row E sz' (setCellAt xs i k r))]
  | _ => []
def bkC (s : St) : AV → AV → List (Id × OB)
  | .ref id, .row e sz els => [(id, .row e sz els)]
  | .rd (.at id _ i k) _ _ _, .row e sz els => backAt id i k (.row e sz els) (s.σ id)
  | _, _ => []
def bkL (s : St) : List AV → List AV → List (Id × OB)
  | .ref id :: cs, .row e sz els :: ds => (id, .row e sz els) :: bkL s cs ds
  | _ :: cs, _ :: ds => bkL s cs ds
  | _, _ => []
def bkA (s : St) : AV → AV → List (Id × OB)
  | .agg cs, .agg ds => bkL s cs ds
  | .ptr id _ _ _, .bx t ds => (id, .box t (opnCs (1000002 :: id) 0 ds).1) :: (opnCs (1000002 :: id) 0 ds).2
  | a, r => bkC s a r
def St.backs (s : St) : List PA → List AV → List AV → List (Id × OB)
  | .mu _ :: ps, a :: as, r :: rs => bkA s a r ++ s.backs ps as rs
  | .rd _ :: ps, _ :: as, _ :: rs => s.backs ps as rs
  | _, _, _ => []
/-- What no longer leads anywhere. -/
def deadC : AV → AV → List Id
  | .ref _, .row .. => []
  | .rd (.at _ _ _ _) _ _ _, .row .. => []
  | a, _ => rootC a
def deadL : List AV → List AV → List Id
  | .ref _ :: cs, .row .. :: ds => deadL cs ds
  | .ref id :: cs, _ :: ds => id :: deadL cs ds
  | _ :: cs, _ :: ds => deadL cs ds
  | cs, [] => rootL cs
  | [], _ => []
def St.deadA (s : St) : AV → AV → List Id
  | .agg cs, .agg ds => deadL cs ds
  | .ptr id _ _ _, .bx _ _ => rootB (s.σ id)
  | .agg cs, _ => rootL cs
  | .ptr id _ _ _, _ => id :: rootB (s.σ id)
  | a, r => deadC a r
def St.dead (s : St) : List PA → List AV → List AV → List Id
  | .mu _ :: ps, a :: as, r :: rs => s.deadA a r ++ s.dead ps as rs
  | .mu _ :: ps, a :: as, [] => s.rootA a ++ s.dead ps as []
  | .rd _ :: ps, _ :: as, _ :: rs => s.dead ps as rs
  | .rd _ :: ps, _ :: as, [] => s.dead ps as []
  | _, _, _ => []
def St.retM (s : St) (ps : List PA) (as : List AV) (d : Option Nat) (r : AV) (rs : List AV) : St :=
  St.ret ⟨killE s.env (s.dead ps as rs ++ chN ps as) (s.roots ps as ++ chN ps as), updL (killS s.σ (s.dead ps as rs ++ chN ps as) (s.roots ps as ++ chN ps as)) (s.backs ps as rs)⟩ d r

/-- Handed to a function that may show what came in, and nothing else: what is the call's own is as if nobody wrote it any more. -/
def frzO (o : Org) : Org := sel (isObj o) .frz o
def frzR : Option OB → Option AV
  | some (.row e sz els) => some (.rd .frz e sz els)
  | _ => none
def St.frzC (s : St) : AV → Option AV
  | .any => some .any
  | .v u => some (.v u)
  | .rd o e sz els => some (.rd (frzO o) e sz els)
  | .ref id => frzR (s.σ id)
  | _ => none
def St.frzL (s : St) : List AV → Option (List AV)
  | [] => some []
  | c :: cs => bindO (s.frzC c) fun c' => bindO (s.frzL cs) fun cs' => some (c' :: cs')
def St.frzA (s : St) : AV → Option AV
  | .agg cs => bindO (s.frzL cs) fun cs' => some (.agg cs')
  | a => s.frzC a
def St.frzE (s : St) : List AV → Option (List AV)
  | [] => some []
  | a :: as => bindO (s.frzA a) fun a' => bindO (s.frzE as) fun as' => some (a' :: as')
/-- A call of a function value that reads what it closes over. (Not to be opened: 'CallV.of'.) -/
def CallV (P : Program) (f : FuncId) (args cs : List AV) (s : St) (d : Option Nat) (K : St → Prop) : Prop :=
  ∃ cargs ccs post, Meets P f (cargs ++ ccs) post ∧ (∀ r, post r → r.pure) ∧ argsE P s false (parTys P f) args = some cargs ∧ s.coeKL cs = some ccs ∧ ∀ r, post r → K (s.ret d r)
theorem CallV.of {P : Program} {f : FuncId} {args cs : List AV} {s : St} {d : Option Nat} {K : St → Prop} {cargs ccs : List AV} {post : AV → Prop} (h : Meets P f (cargs ++ ccs) post) (hp : ∀ r, post r → r.pure)
    (ha : argsE P s false (parTys P f) args = some cargs) (hc : s.coeKL cs = some ccs) (hk : ∀ r, post r → K (s.ret d r)) : CallV P f args cs s d K := ⟨cargs, ccs, post, h, hp, ha, hc, hk⟩
/-- A call of a method of what an interface holds. (Not to be opened: 'CallI.of'.) -/
def CallI (P : Program) (f : FuncId) (args : List AV) (s : St) (d : Option Nat) (K : St → Prop) : Prop :=
  ∃ cargs post, Meets P f cargs post ∧ (∀ r, post r → r.pure) ∧ argsE P s false (parTys P f) args = some cargs ∧ ∀ r, post r → K (s.ret d r)
theorem CallI.of {P : Program} {f : FuncId} {args : List AV} {s : St} {d : Option Nat} {K : St → Prop} {cargs : List AV} {post : AV → Prop} (h : Meets P f cargs post) (hp : ∀ r, post r → r.pure)
    (ha : argsE P s false (parTys P f) args = some cargs) (hk : ∀ r, post r → K (s.ret d r)) : CallI P f args s d K := ⟨cargs, post, h, hp, ha, hk⟩
/-- A call. (Not to be opened: 'CallE.of'.) -/
def CallE (P : Program) (H : Nat → Nat) (f : FuncId) (args : List AV) (s : St) (d : Option Nat) (K : St → Prop) : Prop :=
  (∃ lend cargs post, Meets P f cargs post ∧ (lend = true ∨ ∀ r, post r → r.pure) ∧ argsE P s lend (parTys P f) args = some cargs ∧ ∀ r, post r → K (s.ret d r)) ∨
  (∃ cargs post, Meets P f cargs post ∧ (∀ r, post r → r.nf) ∧ s.frzE args = some cargs ∧ ∀ r, post r → K (s.ret d r)) ∨
  (H 1000000 = 0 ∧ ∃ lend cargs post, MeetsM P f cargs post ∧ (lend = true ∨ ∀ r rs, post r rs → r.pure ∧ pureCs rs) ∧ pargE P s lend (s.roots cargs args) cargs (parTys P f) args = some cargs ∧ (indep (s.roots cargs args) && apartB (rroots cargs args) (chN cargs args)) = true ∧ ∀ r rs, post r rs → K (s.retM cargs args d r rs))
/-- A call whose results show nothing of what was there. -/
theorem CallE.of {P : Program} {H : Nat → Nat} {f : FuncId} {args : List AV} {s : St} {d : Option Nat} {K : St → Prop} {cargs : List AV} {post : AV → Prop} (h : Meets P f cargs post) (hp : ∀ r, post r → r.pure)
    (ha : argsE P s false (parTys P f) args = some cargs) (hk : ∀ r, post r → K (s.ret d r)) : CallE P H f args s d K := .inl ⟨false, cargs, post, h, .inr hp, ha, hk⟩
/-- A call whose results may show what came in. -/
theorem CallE.lend {P : Program} {H : Nat → Nat} {f : FuncId} {args : List AV} {s : St} {d : Option Nat} {K : St → Prop} {cargs : List AV} {post : AV → Prop} (h : Meets P f cargs post)
    (ha : argsE P s true (parTys P f) args = some cargs) (hk : ∀ r, post r → K (s.ret d r)) : CallE P H f args s d K := .inl ⟨true, cargs, post, h, .inl rfl, ha, hk⟩
/-- A call whose results may show what came in to the caller, but nothing of the caller's own. -/
theorem CallE.frz {P : Program} {H : Nat → Nat} {f : FuncId} {args : List AV} {s : St} {d : Option Nat} {K : St → Prop} {cargs : List AV} {post : AV → Prop} (h : Meets P f cargs post) (hp : ∀ r, post r → r.nf)
    (ha : s.frzE args = some cargs) (hk : ∀ r, post r → K (s.ret d r)) : CallE P H f args s d K := .inr <| .inl ⟨cargs, post, h, hp, ha, hk⟩
/-- A call that may write what it is given. -/
theorem CallE.mut {P : Program} {H : Nat → Nat} {f : FuncId} {args : List AV} {s : St} {d : Option Nat} {K : St → Prop} {cargs : List PA} {post : AV → List AV → Prop} (h : MeetsM P f cargs post) (hH : H 1000000 = 0) (hp : ∀ r rs, post r rs → r.pure ∧ pureCs rs)
    (ha : pargE P s false (s.roots cargs args) cargs (parTys P f) args = some cargs) (hi : (indep (s.roots cargs args) && apartB (rroots cargs args) (chN cargs args)) = true) (hk : ∀ r rs, post r rs → K (s.retM cargs args d r rs)) : CallE P H f args s d K := .inr <| .inr ⟨hH, false, cargs, post, h, .inr hp, ha, hi, hk⟩
theorem CallE.mutLend {P : Program} {H : Nat → Nat} {f : FuncId} {args : List AV} {s : St} {d : Option Nat} {K : St → Prop} {cargs : List PA} {post : AV → List AV → Prop} (h : MeetsM P f cargs post) (hH : H 1000000 = 0)
    (ha : pargE P s true (s.roots cargs args) cargs (parTys P f) args = some cargs) (hi : (indep (s.roots cargs args) && apartB (rroots cargs args) (chN cargs args)) = true) (hk : ∀ r rs, post r rs → K (s.retM cargs args d r rs)) : CallE P H f args s d K := .inr <| .inr ⟨hH, true, cargs, post, h, .inl rfl, ha, hi, hk⟩

/-! ### operations -/
/-- An operation without what the evaluator doesn't look at: its slot, itself, its guard's slot. -/
structure SOp where
  dst : Option Nat
  op : Op
  g : Option (Option Nat × Bool)
def dstO : Option Oper → Option Nat
  | some o => o.dst
  | none => none
theorem dstO_bind (o : Option Oper) : dstO o = o.bind (·.dst) := by cases o <;> rfl
def gOf (all : Array Oper) : Option (Nat × Bool) → Option (Option Nat × Bool)
  | none => none
  | some (j, w) => some (dstO (all[j]?), w)
def strip (all : Array Oper) (o : Oper) : SOp := ⟨o.dst, o.op, gOf all o.guard⟩
def stripL (all : Array Oper) : List Oper → List SOp
  | [] => []
  | o :: l => strip all o :: stripL all l

/-- Appended to: the object and what it holds; a nil slice is a new one. -/
def appBase (s : St) (d e sz : Nat) : AV → Option (Id × List (List AV))
  | .ref id => match s.σ id with
    | some (.row e' sz' xs) => sel (e' == e && sz' == sz) (some (id, xs)) none
    | _ => none
  | .v u => bindO (nilV u) fun _ => some ([d], [])
  | _ => none

def callOp (P : Program) (H : Nat → Nat) (dst : Option Nat) (c : Call) (s : St) (K : St → Prop) : Prop :=
  match c.callee, c.args, c.argTypes with
  | .value (.func f), as, _ => CallE P H f (as.toList.map s.ev) s dst K
  | .value x, as, _ => onFn (s.ev x) fun f cs => CallV P f (as.toList.map s.ev) cs s dst K
  | .builtin .len, ⟨[x]⟩, ⟨[T]⟩ =>
    onRef (s.ev x) (fun id => onRL (s.σ id) (fun els => onSome (elTy P T) fun _ => K (s.put dst (.v (.int .i64 els.length)))) (fun l => onSome (mapTy P T) fun _ => K (s.put dst (.v (.int .i64 l.length))))) (fun b => onSome (strTy P T) fun _ => K (s.put dst (.v (.int .i64 b.size))))
      (fun a => onSome (elTy P T) fun t => onSome (s.sl t.2.1 a) fun y => K (s.put dst (.v (.int .i64 y.2.length))))
  | .builtin .cap, ⟨[x]⟩, ⟨[T]⟩ => onSome (elTy P T) fun _ => onNil (s.ev x) (K (s.put dst (.v (.int .i64 0))))
  | .builtin .append, ⟨[x, y]⟩, ⟨[T, T']⟩ => onZ (s.ev y)
    (fun n => onSome (intTy P T') fun _ => onSome (elTy P T) fun t => onSome (zeroC P t.1) fun z => onSome dst fun d => onNil (s.ev x) (ask (0 < n ∧ n * t.2.2 ≤ 140737488355328 ∧ 0 < t.2.2 ∧ 0 < t.2.1) (K (s.new d (.row t.1 t.2.1 (List.replicate n.toNat (nilL (cty P t.1) z))) (.ref [d])))))
    (fun _ =>
    onSome dst fun d => onSome (elTy P T') fun _ => onSome (elTy P T) fun t => onSome (zeroC P t.1) fun _ => onSome (s.sl t.2.1 (s.ev y)) fun ys => onSome (appBase s d t.1 t.2.1 (s.ev x)) fun xs =>
      ask ((xs.2.length + ys.2.length) * t.2.2 ≤ 140737488355328 ∧ 0 < t.2.2)
        (onRef (s.ev y)
          (fun id' => sel (H d == 2)
            (ask (flatE ys.2 ∧ hit [id'] xs.1 = false) (K (((s.chg [xs.1] [xs.1]).obj xs.1 (.row t.1 t.2.1 (xs.2 ++ ys.2))).put (some d) (.ref xs.1))))
            (ask (hit [id'] xs.1 = false) (K (((s.chg [xs.1, id'] [xs.1, id']).obj xs.1 (.row t.1 t.2.1 (xs.2 ++ ys.2))).put (some d) (.ref xs.1)))))
          (fun _ => False)
          (fun _ => sel (isObj ys.1)
            (ask (flatE ys.2 ∧ killO [xs.1] ys.1 = false) (K (((s.chg [xs.1] [xs.1]).obj xs.1 (.row t.1 t.2.1 (xs.2 ++ ys.2))).put (some d) (.ref xs.1))))
            (K (((s.chg [xs.1] [xs.1]).obj xs.1 (.row t.1 t.2.1 (xs.2 ++ ys.2.map (List.map (AV.asrw ys.1))))).put (some d) (.ref xs.1))))))
  | .invoke x nm, as, _ => onIfc (s.ev x) fun t y => onSome (methF P t nm) fun f => CallI P f (y :: as.toList.map s.ev) s dst K
  | .builtin .min, ⟨[x, y]⟩, _ => binE .lss (s.ev y) (s.ev x) fun u => match u with | .bool t => sel t (K (s.put dst (s.ev y))) (K (s.put dst (s.ev x))) | _ => False
  | _, _, _ => False

def loadOp (P : Program) (T : TypeId) (a : Operand) (s : St) (K : AV → Prop) : Prop :=
  onSome (tySz P T) fun t => onAdr (s.ev a)
    (fun r _ _ els i k => onSome (els[i]?) fun cs => onSome (cut t.2 t.1 k cs (AV.asrd r)) K)
    (fun id sz i k => onOB (s.σ id) (fun _ sz' els => ask (sz' = sz) (onSome (els[i]?) fun cs => onSome (cut t.2 t.1 k cs (sel t.2 (AV.asrd (.obj id)) (AV.asat id sz' i k))) K))
      (fun _ cs => ask (i = 0) (onSome (cut t.2 t.1 k cs (fun a => a)) K)))
def storeOp (P : Program) (T : TypeId) (a x : Operand) (s : St) (K : St → Prop) : Prop :=
  onSome (tySz P T) fun t => withL (s.ev x).cells fun vc => ask (vc.length = t.1) (onAdr (s.ev a)
    (fun _ _ _ _ _ _ => False)
    (fun id sz' i k => onOB (s.σ id)
      (fun e sz els => onSome (els[i]?) fun cs => onSome (s.clL vc) fun vs => ask (sz = sz' ∧ k + t.1 ≤ cs.length ∧ indep vs.2 = true ∧ hit vs.2 id = false)
        (K ((s.chg vs.2 (id :: vs.2)).obj id (.row e sz (els.set i (setAt (nilL ((cty P e).drop k) vs.1) k cs))))))
      (fun t' cs => ask (i = 0 ∧ k + t.1 ≤ cs.length ∧ vc.all okBox = true)
        (K ((s.chg [] [id]).obj id (.box t' (setAt (killL [] [id] vc) k (killL [] [id] cs)))))))) 
/-- A bound of a cut: a missing one is d. -/
def boundE (s : St) (x : Option Operand) (d : Int) (K : Int → Prop) : Prop :=
  match x with
  | none => K d
  | some x => onInt (s.ev x) K
def sliceOp (P : Program) (H : Nat → Nat) (dst : Option Nat) (T : TypeId) (x : Operand) (lo hi : Option Operand) (s : St) (K : St → Prop) : Prop :=
  onRef (s.ev x)
    (fun id => onSome (elTy P T) fun t => onOB (s.σ id) (fun u sz els => boundE s lo 0 fun l => boundE s hi els.length fun h => ask (sz = t.2.1 ∧ 0 ≤ l ∧ l ≤ h ∧ h ≤ els.length)
      (onSome dst fun d => sel (H d == 1)
        (K (((s.chg [id] [id]).obj id (.row u sz ((els.take h.toNat).drop l.toNat))).put dst (.ref id)))
        (K (s.put dst (.rd (.obj id) u sz ((els.take h.toNat).drop l.toNat)))))) (fun _ _ => False))
    (fun b => onSome (strTy P T) fun _ => boundE s lo 0 fun l => boundE s hi b.size fun h => ask (0 ≤ l ∧ l ≤ h ∧ h ≤ b.size) (K (s.put dst (.v (.string (b.extract l.toNat h.toNat))))))
    (fun a => onSome (elTy P T) fun t => onSome (s.sl t.2.1 a) fun y => boundE s lo 0 fun l => boundE s hi y.2.length fun h => ask (0 ≤ l ∧ l ≤ h ∧ h ≤ y.2.length)
      (K (s.put dst (slR a (.rd y.1.base t.1 t.2.1 ((y.2.take h.toNat).drop l.toNat))))))

def ixE (s : St) (dst : Option Nat) (x i : Operand) (K : St → Prop) : Ix → Prop
  | .sl t => onInt (s.ev i) fun n => onRef (s.ev x)
      (fun id => onSome (s.sl t.2.1 (.ref id)) fun y => ask (0 ≤ n ∧ n < y.2.length) (K (s.put dst (.ptr id t.2.1 n.toNat 0))))
      (fun _ => False)
      (fun a => onSome (s.sl t.2.1 a) fun y => ask (0 ≤ n ∧ n < y.2.length) (K (s.put dst (.rp y.1 t.1 t.2.1 y.2 n.toNat 0))))
  | .ar m sz => onInt (s.ev i) fun n => ask (0 ≤ n ∧ n < m) (onAdr (s.ev x)
      (fun o e sz' els i k => K (s.put dst (.rp o e sz' els i (k + n.toNat * sz)))) (fun id sz' i k => K (s.put dst (.ptr id sz' i (k + n.toNat * sz)))))

/-- With a hint 100 + T a nil slice is an empty row of the call's own. -/
def asgE (P : Program) (H : Nat → Nat) (dst : Option Nat) (x : Operand) (s : St) (K : St → Prop) : Prop :=
  match dst, x with
  | some d, .const (.slice none 0 0) => sel (H d == 0) (K (s.put (some d) (.v (.slice none 0 0)))) (onSome (elTy P (H d - 100)) fun t => K (s.new d (.row t.1 t.2.1 []) (.ref [d])))
  | dst, x => K (s.put dst (s.ev x))
def opE (P : Program) (H : Nat → Nat) (dst : Option Nat) (op : Op) (s : St) (K : St → Prop) : Prop :=
  match op with
  | .move x => K (s.put dst (s.ev x))
  | .assign x => asgE P H dst x s K
  | .pick c a b => onBool (s.ev c) fun t => ifB t (K (s.put dst (s.ev a))) (K (s.put dst (s.ev b)))
  | .binOp op t x y _ => binT P t s.σ op (s.ev x) (s.ev y) fun u => K (s.put dst (.v u))
  | .unOp op _ x => unE op (s.ev x) fun u => K (s.put dst (.v u))
  | .convert src dt x => onSome (cvTy P src dt) fun
    | .int k => onInt (s.ev x) fun n => K (s.put dst (.v (.int k (k.wrap n))))
    | .bytes => onSome (s.sl 1 (s.ev x)) fun y => onBytes y.2 fun bs => K (s.put dst (.v (.string ⟨bs.toArray⟩)))
    | .str => onRef (s.ev x) (fun _ => False) (fun b => K (s.put dst (.v (.string b)))) (fun _ => False)
  | .indexAddr T x i => onSome (ixTy P T) (ixE s dst x i K)
  | .build T parts => onSome (bldTy P T) fun b => onSome (zeroC P T) fun z => onSome (fillE s b z parts.toList) fun cs => K (s.put dst (.agg cs))
  | .load T a => loadOp P T a s fun x => K (s.put dst x)
  | .store T a x => storeOp P T a x s fun s => K (s.put dst .any)
  | .fieldAddr S x j => onSome (fldTy P S j) fun t => ask (t.2.1 ≠ 0) (onAdr (s.ev x) (fun r e sz els i k => K (s.put dst (.rp r e sz els i (k + t.1)))) (fun id sz i k => K (s.put dst (.ptr id sz i (k + t.1)))))
  | .field S x j => onSome (fldTy P S j) fun t => onAgg (s.ev x) fun cs => onSome (cut t.2.2 t.2.1 t.1 cs (fun a => a)) fun x => K (s.put dst x)
  | .slice T x lo hi none => sliceOp P H dst T x lo hi s K
  | .makeSlice T n c => onSome (elTy P T) fun t => onSome (zeroC P t.1) fun z => onSome dst fun d => onInt (s.ev n) fun n => onInt (s.ev c) fun c =>
      ask (0 ≤ n ∧ n ≤ c ∧ c * t.2.2 ≤ 140737488355328 ∧ 0 < t.2.2) (K (s.new d (.row t.1 t.2.1 (List.replicate n.toNat (nilL (cty P t.1) z))) (.ref [d])))
  | .buildSlice T len parts => onSome (elTy P T) fun t => onSome dst fun d => onSome (partsOf s 0 parts.toList) fun els => onSome (zeroC P t.1) fun _ => ask (els.length = len ∧ 0 < t.2.1 ∧ len * t.2.1 ≤ 16777216) (onSome (s.clE t.2.1 (cty P t.1) els) fun y =>
      ask (indep y.2 = true) (K (((s.chg ([d] :: y.2) ([d] :: y.2)).obj [d] (.row t.1 t.2.1 y.1)).put (some d) (.ref [d]))))
  | .box t x => onSome (tySz P t) fun y => onSome dst fun d => withL (s.ev x).cells fun vc => ask (vc.length = y.1 ∧ vc.all okBox = true) (K (s.new d (.box t (killL [[d]] [[d]] vc)) (.ptr [d] 0 0 0)))
  | .lookup T x i c => onSome (mapTy P T) fun t => onSome (zeroV P t.2) fun z => onRef (s.ev x) (fun id => onMp (s.σ id) fun d _ l => onV (s.ev i) fun u => ask (d = t.1 ∧ MapKept.IsKey d u) (K (s.put dst (mapAns c z l u)))) (fun _ => False) (fun _ => False)
  | .mapUpdate T x i y => onSome (mapTy P T) fun t => onRef (s.ev x) (fun id => onMp (s.σ id) fun d e l => onV (s.ev i) fun u => onV (s.ev y) fun v => ask (d = t.1 ∧ MapKept.IsKey d u) (K (((s.chg [] [id]).obj id (.mp d e (mput l u v))).put dst .any))) (fun _ => False) (fun _ => False)
  | .makeMap T none => onSome (mapTy P T) fun t => onSome dst fun d => K (s.new d (.mp t.1 t.2 []) (.ref [d]))
  | .alloc t => onSome (zeroC P t) fun z => onSome dst fun d => K (s.new d (.box t z) (.ptr [d] 0 0 0))
  | .nilCheck x => onAdr (s.ev x) (fun r e sz els i k => K (s.put dst (.rp r e sz els i k))) (fun id sz i k => K (s.put dst (.ptr id sz i k)))
  | .extract t k => onTup (s.ev t) fun cs => onSome (cs[k]?) fun c => K (s.put dst c)
  | .call c => callOp P H dst c s K
  | .makeFunc (.func f) ⟨[]⟩ caps => K (s.put dst (.fn f (caps.toList.map s.ev)))
  | .makeInterface T x => onSome (ifcTy P T) fun _ => K (s.put dst (.ifc T (s.ev x)))
  | _ => False

/-- Operations in the order of the text. -/
def opsE (P : Program) (H : Nat → Nat) : List SOp → St → (St → Prop) → Prop
  | [], s, K => K s
  | ⟨dst, op, none⟩ :: l, s, K => opE P H dst op s (fun s' => opsE P H l s' K)
  | ⟨dst, op, some (some c, want)⟩ :: l, s, K =>
    onGd (s.env c) (fun t => ifB (t == want) (opE P H dst op (s.put (some c) (.v (.bool want))) (fun s' => opsE P H l s' K)) (opsE P H l ((s.put (some c) (.v (.bool !want))).put dst (.tup [])) K)) (opsE P H l (s.put dst (.tup [])) K)
  | ⟨_, _, some (none, _)⟩ :: _, _, _ => False

/-! ### code -/
inductive Ex where
  | normal
  | exit (id : Nat)
  | ret
def Ex.then (x : St → Prop) (Q : Ex → St → Prop) : Ex → St → Prop
  | .normal, s => x s
  | e, s => Q e s
def Ex.block (id : Nat) (Q : Ex → St → Prop) : Ex → St → Prop
  | .exit i, s => sel (i == id) (Q .normal s) (Q (.exit i) s)
  | e, s => Q e s
/-- A nil slice may be looked at as a row of the call's own that holds nothing. -/
inductive Wk : St → St → Prop
  | refl (s : St) : Wk s s
  | nil {s s' : St} (d : Nat) (id : Id) (e sz : Nat) (h : s.env d = .v (.slice none 0 0)) (k : Wk (((s.chg [id] [id]).obj id (.row e sz [])).put (some d) (.ref id)) s') : Wk s s'
  | box {s s' : St} (id : Id) (k : Nat) (cid : Id) (e sz t : Nat) (cs : List AV) (h : s.σ id = some (.box t cs)) (hk : cs[k]? = some (.v (.slice none 0 0))) (hne : cmp cid id = false)
      (w : Wk (((s.chg [cid] [cid]).obj cid (.row e sz [])).obj id (.box t ((killL [cid] [cid] cs).set k (.ref cid)))) s') : Wk s s'
/-- A loop: what holds at each round's head, with a number that each round lowers. (Not to be opened: 'LoopE.of'.) -/
def LoopE (step : St → (Ex → St → Prop) → Prop) (s : St) (Q : Ex → St → Prop) : Prop :=
  ∃ (I : Nat → St → Prop) (n : Nat), (∃ s', Wk s s' ∧ I n s') ∧ ∀ n s, I n s → step s (Ex.then (fun s' => ∃ n', n' < n ∧ ∃ s'', Wk s' s'' ∧ I n' s'') Q)
/-- A loop that counts up to N. -/
theorem LoopE.cntW {step : St → (Ex → St → Prop) → Prop} {s s0 : St} {Q : Ex → St → Prop} (N : Nat) (I : Nat → St → Prop) (h0 : Wk s s0) (h : I 0 s0) (hr : ∀ i s, i ≤ N → I i s → ∀ K : St → Prop, (∀ s' s'', i < N → Wk s' s'' → I (i + 1) s'' → K s') → step s (Ex.then K Q)) : LoopE step s Q := by
  refine ⟨fun n s => ∃ i, i ≤ N ∧ n = N - i ∧ I i s, N, ⟨s0, h0, 0, Nat.zero_le _, rfl, h⟩, ?_⟩
  rintro n s ⟨i, hi, rfl, hI⟩
  exact hr i s hi hI _ fun s' s'' h1 hw h2 => ⟨N - (i + 1), by omega, s'', hw, i + 1, by omega, rfl, h2⟩
theorem LoopE.cnt {step : St → (Ex → St → Prop) → Prop} {s : St} {Q : Ex → St → Prop} (N : Nat) (I : Nat → St → Prop) (h : I 0 s) (hr : ∀ i s, i ≤ N → I i s → ∀ K : St → Prop, (∀ s', i < N → I (i + 1) s' → K s') → step s (Ex.then K Q)) : LoopE step s Q :=
  LoopE.cntW N I (.refl s) h fun i s hi hI K hK => hr i s hi hI K fun s' h1 h2 => hK s' s' h1 (.refl s') h2
/-- A loop with a measure. -/
theorem LoopE.measW {step : St → (Ex → St → Prop) → Prop} {s s0 : St} {Q : Ex → St → Prop} (I : Nat → St → Prop) (n : Nat) (h0 : Wk s s0) (h : I n s0) (hr : ∀ n s, I n s → ∀ K : St → Prop, (∀ n' s' s'', n' < n → Wk s' s'' → I n' s'' → K s') → step s (Ex.then K Q)) : LoopE step s Q :=
  ⟨I, n, ⟨s0, h0, h⟩, fun n s hI => hr n s hI _ fun n' s' s'' h1 hw h2 => ⟨n', h1, s'', hw, h2⟩⟩
theorem LoopE.meas {step : St → (Ex → St → Prop) → Prop} {s : St} {Q : Ex → St → Prop} (I : Nat → St → Prop) (n : Nat) (h : I n s) (hr : ∀ n s, I n s → ∀ K : St → Prop, (∀ n' s', n' < n → I n' s' → K s') → step s (Ex.then K Q)) : LoopE step s Q :=
  LoopE.measW I n (.refl s) h fun n s hI K hK => hr n s hI K fun n' s' h1 h2 => hK n' s' s' h1 (.refl s') h2
/-- Hints, by slots. -/
def hint : List (Nat × Nat) → Nat → Nat
  | [], _ => 0
  | x :: l, d => sel (d == x.1) x.2 (hint l d)
def opsAt (ops : Array Oper) (π : List Nat) : List Oper := π.filterMap fun i => ops[i]?
/-- A region's operations in the order in which they are looked at. -/
def hBl (H : Nat → Nat) : Nat → Nat := fun d => sel (d == 1000000) 1 (H d)
/-- Slots whose operations may come up early hold what is not known. -/
def St.anys (s : St) : List Nat → St
  | [] => s
  | d :: ds => (s.anys ds).put (some d) .any
def rmD (d : Option Nat) : List Nat → List Nat
  | [] => []
  | x :: xs => match d with | some d => sel (x == d) (rmD (some d) xs) (x :: rmD (some d) xs) | none => x :: xs
def onOp (o : Option Oper) (k : Oper → Prop) : Prop := match o with | some o => k o | none => False
/-- It names an operation to come up now. -/
@[irreducible] def isX (i : Nat) : Bool := i - 999 == 0
theorem isX_eq (i : Nat) : isX i = (i - 999 == 0) := by unfold isX; rfl
/-- Operations in an order in which 1000 + j says: from here on operation j may have come up. -/
def opsD (P : Program) (H : Nat → Nat) (ops : Array Oper) : List Nat → List Nat → St → (St → Prop) → Prop
  | _, [], s, K => K s
  | ann, i :: π, s, K => sel (isX i)
    (onOp (ops[i]?) fun o => opsE P H (stripL ops [o]) s fun s' => opsD P H ops (rmD o.dst ann) π (s'.anys (rmD o.dst ann)) K)
    (onOp (ops[i - 1000]?) fun o => onSome o.dst fun d => ask (opE P H (some d) o.op s (fun _ => True)) (opsD P H ops (d :: ann) π (s.anys [d]) K))
/-- It names an operation that writes nothing that was there. -/
@[irreducible] def isY (i : Nat) : Bool := i - 1999 == 0
theorem isY_eq (i : Nat) : isY i = (i - 1999 == 0) := by unfold isY; rfl
/-- Operations in a given order; 2000 + j: operation j, which may write what is given to it. -/
def opsM (P : Program) (H : Nat → Nat) (ops : Array Oper) : List Nat → St → (St → Prop) → Prop
  | [], s, K => K s
  | i :: π, s, K => sel (isY i)
    (onOp (ops[i]?) fun o => opsE P (hBl H) (stripL ops [o]) s fun s' => opsM P H ops π s' K)
    (onOp (ops[i - 2000]?) fun o => opsE P H (stripL ops [o]) s fun s' => opsM P H ops π s' K)
/-- A region that draws its order. -/
def regE (P : Program) (H : Nat → Nat) (ops : Array Oper) : List Nat → St → (St → Prop) → Prop
  | [], s, K => opsE P H (stripL ops ops.toList) s K
  | i :: π, s, K => sel (i == 998) (opsM P H ops π s K) (sel (i == 999) (opsD P (hBl H) ops [] π s K) (opsE P (hBl H) (stripL ops (opsAt ops (i :: π))) s K))
def awp (P : Program) (H : Nat → Nat) (O : Nat → List Nat) : Code → St → (Ex → St → Prop) → Prop
  | .skip, s, Q => Q .normal s
  | .region id ops false, s, Q => opsE P H (stripL ops ops.toList) s (Q .normal)
  | .region id ops true, s, Q => regE P H ops (O id) s (Q .normal)
  | .seq a b, s, Q => awp P H O a s (Ex.then (fun s' => awp P H O b s' Q) Q)
  | .cond c a b, s, Q => onBool (s.ev c) fun t => ifB t (awp P H O a s Q) (awp P H O b s Q)
  | .block id c, s, Q => awp P H O c s (Ex.block id Q)
  | .loop c, s, Q => LoopE (awp P H O c) s Q
  | .exit id, s, Q => Q (.exit id) s
  | .ret, s, Q => Q .ret s
  | _, _, _ => False

/-! ### return -/
def boxOf : Option OB → Option (List AV)
  | some (.box _ cs) => some cs
  | _ => none
def ptrBox (s : St) : AV → Option (List AV × Nat)
  | .ptr id _ 0 k => bindO (boxOf (s.σ id)) fun cs => some (cs, k)
  | _ => none
def retA (P : Program) (s : St) : List ResultVar → Option (List AV)
  | [] => some []
  | .tmp t :: rs => bindO (retA P s rs) fun l => some (s.env t :: l)
  | .cell a T :: rs => bindO (tySz P T) fun t => bindO (ptrBox s (s.env a)) fun y => bindO (cut t.2 t.1 y.2 y.1 (fun a => a)) fun x => bindO (retA P s rs) fun l => some (x :: l)
def St.clA (s : St) : AV → Option (AV × List Id)
  | .agg cs => bindO (s.clL cs) fun x => some (.agg x.1, x.2)
  | .ptr id _ 0 0 => bindO (boxTC (s.σ id)) fun b => bindO (s.clL b.2) fun x => some (.bx b.1 x.1, id :: x.2)
  | a => s.clC a
def St.clAs (s : St) : List AV → Option (List AV × List Id)
  | [] => some ([], [])
  | c :: cs => bindO (s.clA c) fun x => bindO (s.clAs cs) fun y => some (x.1 :: y.1, x.2 ++ y.2)
def nilAs (P : Program) : List TypeId → List AV → List AV
  | t :: ts, a :: as => nilA (cty P t) a :: nilAs P ts as
  | _, as => as
def tupOf : List AV → AV
  | [r] => r
  | rs => .tup rs
def retE (P : Program) (rs : List ResultVar) (ts : List TypeId) (s : St) (post : AV → Prop) : Prop :=
  onSome (retA P s rs) fun l => onSome (s.clAs l) fun y => ask (indep y.2 = true) (post (tupOf (nilAs P ts y.1)))
def RetQ (P : Program) (rs : List ResultVar) (ts : List TypeId) (post : AV → Prop) : Ex → St → Prop
  | .normal, s => retE P rs ts s post
  | .ret, s => retE P rs ts s post
  | _, _ => False

/-- The state at a function's entry. -/
def asrdA (a : AV) : AV := a.asrd .ent
def initE (args : List AV) : Nat → AV := fun k => match args[k]? with | some a => asrdA a | none => .any
def initS : Id → Option OB := fun _ => none
def St.init (args : List AV) : St := ⟨initE args, initS⟩

/-! ### a function that writes what it is given -/
def initEM (ps : List PA) : Nat → AV := fun k => match ps[k]? with | some (.rd a) => a.asrd .ent | some (.mu a) => (opnB [1000000] k a).1 | none => .any
def objsM (vals : Nat → Value) : Nat → List PA → List (Id × OB)
  | _, [] => []
  | q, .rd _ :: ps => objsM vals (q + 1) ps
  | q, .mu a :: ps => (opnB [1000000] q a).2 ++ ([1000001, q], .pin (opnB [1000000] q a).1 (vals q)) :: objsM vals (q + 1) ps
def St.initM (vals : Nat → Value) (ps : List PA) : St := ⟨initEM ps, updL initS (objsM vals 0 ps)⟩
def pinOf : Option OB → AV
  | some (.pin c _) => c
  | _ => .any
def pinV : Option OB → Value → Prop
  | some (.pin _ x), v => x = v
  | _, _ => True
def pinsE (s : St) (vals : Nat → Value) : Nat → List PA → Prop
  | _, [] => True
  | q, .rd _ :: ps => pinsE s vals (q + 1) ps
  | q, .mu _ :: ps => pinV (s.σ [1000001, q]) (vals q) ∧ pinsE s vals (q + 1) ps
def rowT (id : Id) : Option OB → AV × List Id
  | some (.row e sz els) => (.row e sz els, [id])
  | _ => (.any, [])
def St.clTC (s : St) : AV → AV × List Id
  | .ref id => rowT id (s.σ id)
  | a => getO (s.clC a) (.any, [])
def St.clTL (s : St) : List AV → List AV × List Id
  | [] => ([], [])
  | c :: cs => ((s.clTC c).1 :: (s.clTL cs).1, (s.clTC c).2 ++ (s.clTL cs).2)
def boxT (P : Program) (s : St) (id : Id) : Option OB → AV × List Id
  | some (.box t cs) => getO (bindO (s.clL cs) fun x => some (.bx t (nilL (cty P t) x.1), id :: x.2)) (.any, [])
  | _ => (.any, [])
def St.clT (P : Program) (s : St) (ts : List (Option (Nat × Nat))) : AV → AV × List Id
  | .agg cs => (.agg (nilL ts (s.clTL cs).1), (s.clTL cs).2)
  | .ptr id _ 0 0 => boxT P s id (s.σ id)
  | a => (nilC (ts.headD none) (s.clTC a).1, (s.clTC a).2)
def St.clTs (P : Program) (s : St) : Nat → List PA → List TypeId → List AV × List Id
  | q, .rd _ :: ps, _ :: ts => (.any :: (s.clTs P (q + 1) ps ts).1, (s.clTs P (q + 1) ps ts).2)
  | q, .mu _ :: ps, t :: ts => ((s.clT P (cty P t) (pinOf (s.σ [1000001, q]))).1 :: (s.clTs P (q + 1) ps ts).1, (s.clT P (cty P t) (pinOf (s.σ [1000001, q]))).2 ++ (s.clTs P (q + 1) ps ts).2)
  | _, _, _ => ([], [])
def retEM (P : Program) (rs : List ResultVar) (ts : List TypeId) (pts : List TypeId) (vals : Nat → Value) (ps : List PA) (s : St) (post : AV → List AV → Prop) : Prop :=
  onSome (retA P s rs) fun l => onSome (s.clAs l) fun y => withL (s.clTs P 0 ps pts) fun z => ask (indep (y.2 ++ z.2) = true ∧ pinsE s vals 0 ps) (post (tupOf (nilAs P ts y.1)) z.1)
def RetQM (P : Program) (rs : List ResultVar) (ts : List TypeId) (pts : List TypeId) (vals : Nat → Value) (ps : List PA) (post : AV → List AV → Prop) : Ex → St → Prop
  | .normal, s => retEM P rs ts pts vals ps s post
  | .ret, s => retEM P rs ts pts vals ps s post
  | _, _ => False

/-! ### what is looked at once -/
def quietN (ops : Array Oper) (q : Op → Bool) : Nat := (ops.toList.takeWhile fun o => q o.op).length
def quietOp : Op → Bool
  | .move _ | .assign _ | .pick .. | .binOp .. | .unOp .. | .convert .. | .indexAddr .. | .build .. | .load .. | .fieldAddr .. | .field .. | .slice .. | .nilCheck _ | .extract .. | .lookup .. | .makeFunc .. | .makeInterface .. => true
  | .call c => match c.callee with | .builtin .len | .builtin .min | .builtin .cap => true | _ => false
  | _ => false
/-- It does not look into memory. -/
def memFree : Op → Bool
  | .load .. | .convert .. | .lookup .. => false
  | .call c => match c.callee with | .builtin .len => false | _ => true
  | _ => true
/-- It changes nothing that was there. -/
def growOp : Op → Bool
  | .store .. | .mapUpdate .. => false
  | .call c => match c.callee with | .builtin .append => false | _ => true
  | _ => true
/-- Is i among what e waits for, at whatever remove? -/
def ancB (md : Region.Mode) (ops : Array Oper) : Nat → Nat → Nat → Bool
  | 0, _, _ => false
  | f + 1, e, i => Region.waitsFor md ops e i || (List.range ops.size).any fun j => Region.waitsFor md ops e j && ancB md ops f j i
/-- May the order π be taken from here on? -/
def drawOk (ops : Array Oper) : List Nat → Array Bool → Bool
  | [], listed => (Region.ready .any ops listed).isEmpty
  | i :: π, listed => (Region.ready .any ops listed).contains i && (match ops[i]? with | some o => (quietOp o.op && Region.free .any ops listed i) || Region.ready .any ops listed == [i] | none => false) && drawOk ops π (listed.setIfInBounds i true)
/-- What may come up early: it lays new memory and looks at none. -/
def pendOp : Op → Bool
  | .buildSlice .. | .alloc _ | .box .. | .makeSlice .. | .makeMap _ none => true
  | _ => false
def listAll (listed : Array Bool) (l : List Nat) : Array Bool := l.foldl (fun a k => a.setIfInBounds k true) listed
/-- Nothing that is still to come writes what operation j looks at, or where it writes. -/
def stableB (ops : Array Oper) (listed : Array Bool) (j : Nat) (oj : Oper) : Bool :=
  (List.range ops.size).all fun k => k == j || listed.getD k true || match ops[k]? with
    | some ok => match ok.dst with | some d => !(oj.looksAt ops).contains d && oj.dst != some d | none => true
    | none => true
/-- May the order π be taken from here on, where those in ann may come up early? -/
def drawOkD (ops : Array Oper) : List Nat → Array Bool → List Nat → Bool
  | [], listed, ann => (Region.ready .any ops listed).isEmpty && ann.isEmpty
  | i :: π, listed, ann => if isX i then
      (Region.ready .any ops listed).contains i && (match ops[i]? with
        | some o => (quietOp o.op && Region.free .any ops listed i && !ann.contains i) || (Region.ready .any ops (listAll listed (ann.filter (· != i))) == [i] && ((ann.filter (· != i)).isEmpty || growOp o.op))
        | none => false) && drawOkD ops π (listed.setIfInBounds i true) (ann.filter (· != i))
    else (Region.ready .any ops listed).contains (i - 1000) && (match ops[i - 1000]? with
        | some o => pendOp o.op && o.guard.isNone && (match o.dst with | some d => !(o.looksAt ops).contains d | none => false) && !ann.contains (i - 1000) && stableB ops listed (i - 1000) o
        | none => false) && drawOkD ops π listed ((i - 1000) :: ann)
def loadsOk (ops : Array Oper) : Bool :=
  (List.range ops.size).all fun i => (List.range ops.size).all fun j =>
    match ops[i]?, ops[j]? with
    | some oi, some oj => !quietOp oi.op || memFree oi.op || growOp oj.op || ancB .any ops ops.size j i
    | _, _ => true
def unM (i : Nat) : Nat := if isY i = true then i else i - 2000
def loadsOkM (ops : Array Oper) (M : List Nat) : Bool :=
  (List.range ops.size).all fun i => (List.range ops.size).all fun j =>
    match ops[i]?, ops[j]? with
    | some oi, some oj => !quietOp oi.op || memFree oi.op || (growOp oj.op && !M.contains (j + 2000)) || ancB .any ops ops.size j i
    | _, _ => true
def wfOps (n : Nat) (ops : Array Oper) : Bool := ops.all fun o => match o.dst with | some d => decide (d < n) | none => true
def wfDraw (ops : Array Oper) (π : List Nat) : Bool :=
  match π with
  | [] => (Region.lexB .any ops && ops.all fun o => quietOp o.op) || Region.lexTailB .any ops (quietN ops quietOp)
  | i :: π => if i == 998 then Region.noSelect ops && loadsOkM ops π && π.length == ops.size && drawOk ops (π.map unM) (Array.replicate ops.size false) else Region.noSelect ops && loadsOk ops && (if i == 999 then drawOkD ops π (Array.replicate ops.size false) [] else (i :: π).length == ops.size && drawOk ops (i :: π) (Array.replicate ops.size false))
def wfCode (O : Nat → List Nat) (n : Nat) : Code → Bool
  | .region id ops draw => wfOps n ops && (!draw || wfDraw ops (O id))
  | .seq a b => wfCode O n a && wfCode O n b
  | .cond _ a b => wfCode O n a && wfCode O n b
  | .block _ c => wfCode O n c
  | .loop c => wfCode O n c
  | .skip | .exit _ | .ret => true
  | _ => false

end Go.Ev
