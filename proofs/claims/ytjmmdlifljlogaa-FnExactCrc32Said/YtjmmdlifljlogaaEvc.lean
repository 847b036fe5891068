/- The evaluator, part 3: contracts, operations, code. -/
import Derived.Test.YtjmmdlifljlogaaEvb
namespace Go.Ev
open Go Go.RowKit

/-! ### contracts -/
/-- FUNCTION f, CALLED WITH WHATEVER LOOKS LIKE args, RETURNS WHAT LOOKS LIKE SOME r WITH post r; all rows of r are new memory, no two the same; nothing that was there turns. r may show pieces of what came in. -/
structure Meets (P : Program) (f : FuncId) (args : List AV) (post : AV → Prop) : Prop where
  enters : (match P.funcs[f]? with | some fn => fn.body.isSome && fn.name != "runtime.NumGoroutine" | none => false) = true
  runs : ∀ (w : World) (S F : Nat → Prop) (base : Id) (vals : Array Value), (∀ b, S b ∨ F b → b < w.heap.size) →
    RepVs ⟨w, S, F, fun _ => none, fun _ => undef, fun _ => False⟩ true (.read .ent) 0 args vals.toList →
    Calls P f vals w fun e w' => ∃ r v L, post r ∧ e = .returned v ∧
      Rep ⟨w', S, F, L, fun _ => undef, fun _ => False⟩ true (.own base) r v ∧
      (∀ b p, L b = some p → w.heap.size ≤ b ∧ b < w'.heap.size) ∧ Below w.heap.size w w'

def coeRow : Option OB → Option AV
  | some (.row e sz els) => some (.row e sz els)
  | _ => none
/-- What a caller's value looks like to a function that lends nothing. -/
def St.coe (s : St) : AV → Option AV
  | .any => some .any
  | .v u => some (.v u)
  | .rd _ e sz els => some (.row e sz els)
  | .ref id => coeRow (s.σ id)
  | _ => none
def St.coeL (s : St) : List AV → Option (List AV)
  | [] => some []
  | c :: cs => bindO (s.coe c) fun c' => bindO (s.coeL cs) fun cs' => some (c' :: cs')
def St.coeA (s : St) : AV → Option AV
  | .agg cs => bindO (s.coeL cs) fun cs' => some (.agg cs')
  | a => s.coe a
/-- Handed to a function that may lend: what came in, and what nobody writes, as it is. -/
def lendC : AV → Option AV
  | .any => some .any
  | .v u => some (.v u)
  | .rd o e sz els => sel (isObj o) none (some (.rd o e sz els))
  | _ => none
def lendL : List AV → Option (List AV)
  | [] => some []
  | c :: cs => bindO (lendC c) fun c' => bindO (lendL cs) fun cs' => some (c' :: cs')
def lendA : AV → Option AV
  | .agg cs => bindO (lendL cs) fun cs' => some (.agg cs')
  | a => lendC a
def parTys (P : Program) (f : FuncId) : List TypeId := match P.funcs[f]? with | some fn => fn.params.toList | none => []
def argsE (P : Program) (s : St) (lend : Bool) : List TypeId → List AV → Option (List AV)
  | [], [] => some []
  | t :: ts, a :: as => bindO (sel lend (lendA a) (bindO (s.coeA a) fun x => some (nilA (cty P t) x))) fun a' => bindO (argsE P s lend ts as) fun as' => some (a' :: as')
  | _, _ => none

/-- What comes back: its rows are objects of the caller's from now on. -/
def opnC (id : Id) (q : Nat) : AV → AV × List (Id × OB)
  | .row e sz els => (.ref (id ++ [q]), [(id ++ [q], .row e sz els)])
  | .agg _ => (.any, [])
  | .tup _ => (.any, [])
  | a => (a, [])
def opnCs (id : Id) : Nat → List AV → List AV × List (Id × OB)
  | _, [] => ([], [])
  | q, a :: as => ((opnC id q a).1 :: (opnCs id (q + 1) as).1, (opnC id q a).2 ++ (opnCs id (q + 1) as).2)
def opnB (id : Id) (q : Nat) : AV → AV × List (Id × OB)
  | .agg cs => (.agg (opnCs (id ++ [q]) 0 cs).1, (opnCs (id ++ [q]) 0 cs).2)
  | a => opnC id q a
def opnL (id : Id) : Nat → List AV → List AV × List (Id × OB)
  | _, [] => ([], [])
  | q, a :: as => ((opnB id q a).1 :: (opnL id (q + 1) as).1, (opnB id q a).2 ++ (opnL id (q + 1) as).2)
def opnA (d : Nat) : AV → AV × List (Id × OB)
  | .row e sz els => (.ref [d], [([d], .row e sz els)])
  | .agg cs => (.agg (opnCs [d] 0 cs).1, (opnCs [d] 0 cs).2)
  | .tup cs => (.tup (opnL [d] 0 cs).1, (opnL [d] 0 cs).2)
  | a => (a, [])
def updL (σ : Id → Option OB) : List (Id × OB) → Id → Option OB
  | [] => σ
  | x :: xs => updL (updS σ x.1 x.2) xs
def St.ret (s : St) (d : Option Nat) (r : AV) : St :=
  match d with
  | some d => ⟨upd (killE s.env [[d]] [[d]]) d (opnA d r).1, updL (killS s.σ [[d]] [[d]]) (opnA d r).2⟩
  | none => s

/-- A call. (Not to be opened: 'CallE.of'.) -/
def CallE (P : Program) (f : FuncId) (args : List AV) (s : St) (d : Option Nat) (K : St → Prop) : Prop :=
  ∃ lend cargs post, Meets P f cargs post ∧ (lend = true ∨ ∀ r, post r → r.pure) ∧ argsE P s lend (parTys P f) args = some cargs ∧ ∀ r, post r → K (s.ret d r)
/-- A call whose results show nothing of what was there. -/
theorem CallE.of {P : Program} {f : FuncId} {args : List AV} {s : St} {d : Option Nat} {K : St → Prop} {cargs : List AV} {post : AV → Prop} (h : Meets P f cargs post) (hp : ∀ r, post r → r.pure)
    (ha : argsE P s false (parTys P f) args = some cargs) (hk : ∀ r, post r → K (s.ret d r)) : CallE P f args s d K := ⟨false, cargs, post, h, .inr hp, ha, hk⟩
/-- A call whose results may show what came in. -/
theorem CallE.lend {P : Program} {f : FuncId} {args : List AV} {s : St} {d : Option Nat} {K : St → Prop} {cargs : List AV} {post : AV → Prop} (h : Meets P f cargs post)
    (ha : argsE P s true (parTys P f) args = some cargs) (hk : ∀ r, post r → K (s.ret d r)) : CallE P f args s d K := ⟨true, cargs, post, h, .inl rfl, ha, hk⟩

/-! ### operations -/
/-- An operation without what the evaluator doesn't look at: its slot, itself, its guard's slot. -/
structure SOp where
  dst : Option Nat
  op : Op
  g : Option (Option Nat × Bool)
def gOf (all : Array Oper) : Option (Nat × Bool) → Option (Option Nat × Bool)
  | none => none
  | some (j, w) => some ((all[j]?).bind (·.dst), w)
def strip (all : Array Oper) (o : Oper) : SOp := ⟨o.dst, o.op, gOf all o.guard⟩
def stripL (all : Array Oper) : List Oper → List SOp
  | [] => []
  | o :: l => strip all o :: stripL all l

/-- Appended to: the object and what it holds; a nil slice is a new one. -/
def appBase (s : St) (d e sz : Nat) : AV → Option (Id × List (List AV))
  | .ref id => match s.σ id with
    | some (.row e' sz' xs) => sel (e' == e && sz' == sz) (some (id, xs)) none
    | _ => none
  | .v u => bindO (nilV u) fun _ => some ([d], [])
  | _ => none

def callOp (P : Program) (H : Nat → Nat) (dst : Option Nat) (c : Call) (s : St) (K : St → Prop) : Prop :=
  match c.callee, c.args, c.argTypes with
  | .value (.func f), as, _ => CallE P f (as.toList.map s.ev) s dst K
  | .builtin .len, ⟨[x]⟩, ⟨[T]⟩ =>
    onRef (s.ev x) (fun id => onSome (elTy P T) fun _ => onOB (s.σ id) (fun _ _ els => K (s.put dst (.v (.int .i64 els.length)))) (fun _ _ => False)) (fun b => onSome (strTy P T) fun _ => K (s.put dst (.v (.int .i64 b.size))))
      (fun a => onSome (elTy P T) fun t => onSome (s.sl t.2.1 a) fun y => K (s.put dst (.v (.int .i64 y.2.length))))
  | .builtin .append, ⟨[x, y]⟩, ⟨[T, T']⟩ =>
    onSome dst fun d => onSome (elTy P T') fun _ => onSome (elTy P T) fun t => onSome (zeroC P t.1) fun _ => onSome (s.sl t.2.1 (s.ev y)) fun ys => onSome (appBase s d t.1 t.2.1 (s.ev x)) fun xs =>
      ask ((xs.2.length + ys.2.length) * t.2.2 ≤ 140737488355328 ∧ 0 < t.2.2)
        (onRef (s.ev y)
          (fun id' => sel (H d == 2)
            (ask (flatE ys.2 ∧ hit [id'] xs.1 = false) (K (((s.chg [xs.1] [xs.1]).obj xs.1 (.row t.1 t.2.1 (xs.2 ++ ys.2))).put (some d) (.ref xs.1))))
            (ask (hit [id'] xs.1 = false) (K (((s.chg [xs.1, id'] [xs.1, id']).obj xs.1 (.row t.1 t.2.1 (xs.2 ++ ys.2))).put (some d) (.ref xs.1)))))
          (fun _ => False)
          (fun _ => sel (isObj ys.1)
            (ask (flatE ys.2 ∧ killO [xs.1] ys.1 = false) (K (((s.chg [xs.1] [xs.1]).obj xs.1 (.row t.1 t.2.1 (xs.2 ++ ys.2))).put (some d) (.ref xs.1))))
            (K (((s.chg [xs.1] [xs.1]).obj xs.1 (.row t.1 t.2.1 (xs.2 ++ ys.2.map (List.map (AV.asrd ys.1))))).put (some d) (.ref xs.1)))))
  | .builtin .min, ⟨[x, y]⟩, _ => binE .lss (s.ev y) (s.ev x) fun u => match u with | .bool t => sel t (K (s.put dst (s.ev y))) (K (s.put dst (s.ev x))) | _ => False
  | _, _, _ => False

def loadOp (P : Program) (T : TypeId) (a : Operand) (s : St) (K : AV → Prop) : Prop :=
  onSome (tySz P T) fun t => onAdr (s.ev a)
    (fun r _ _ els i k => onSome (els[i]?) fun cs => onSome (cut t.2 t.1 k cs (AV.asrd r)) K)
    (fun id sz i k => onOB (s.σ id) (fun _ sz' els => ask (sz' = sz) (onSome (els[i]?) fun cs => onSome (cut t.2 t.1 k cs (AV.asrd (.obj id))) K))
      (fun _ cs => ask (i = 0) (onSome (cut t.2 t.1 k cs (fun a => a)) K)))
def storeOp (P : Program) (T : TypeId) (a x : Operand) (s : St) (K : St → Prop) : Prop :=
  onSome (tySz P T) fun t => withL (s.ev x).cells fun vc => ask (vc.length = t.1) (onAdr (s.ev a)
    (fun _ _ _ _ _ _ => False)
    (fun id sz' i k => onOB (s.σ id)
      (fun e sz els => onSome (els[i]?) fun cs => onSome (s.clL vc) fun vs => ask (sz = sz' ∧ k + t.1 ≤ cs.length ∧ indep vs.2 = true ∧ hit vs.2 id = false)
        (K ((s.chg vs.2 (id :: vs.2)).obj id (.row e sz (els.set i (setAt (nilL ((cty P e).drop k) vs.1) k cs))))))
      (fun t' cs => ask (i = 0 ∧ k + t.1 ≤ cs.length ∧ vc.all okBox = true)
        (K ((s.chg [] [id]).obj id (.box t' (setAt (killL [] [id] vc) k (killL [] [id] cs)))))))) 
/-- A bound of a cut: a missing one is d. -/
def boundE (s : St) (x : Option Operand) (d : Int) (K : Int → Prop) : Prop :=
  match x with
  | none => K d
  | some x => onInt (s.ev x) K
def sliceOp (P : Program) (H : Nat → Nat) (dst : Option Nat) (T : TypeId) (x : Operand) (lo hi : Option Operand) (s : St) (K : St → Prop) : Prop :=
  onRef (s.ev x)
    (fun id => onSome (elTy P T) fun t => onOB (s.σ id) (fun u sz els => boundE s lo 0 fun l => boundE s hi els.length fun h => ask (sz = t.2.1 ∧ 0 ≤ l ∧ l ≤ h ∧ h ≤ els.length)
      (onSome dst fun d => sel (H d == 1)
        (K (((s.chg [id] [id]).obj id (.row u sz ((els.take h.toNat).drop l.toNat))).put dst (.ref id)))
        (K (s.put dst (.rd (.obj id) u sz ((els.take h.toNat).drop l.toNat)))))) (fun _ _ => False))
    (fun b => onSome (strTy P T) fun _ => boundE s lo 0 fun l => boundE s hi b.size fun h => ask (0 ≤ l ∧ l ≤ h ∧ h ≤ b.size) (K (s.put dst (.v (.string (b.extract l.toNat h.toNat))))))
    (fun a => onSome (elTy P T) fun t => onSome (s.sl t.2.1 a) fun y => boundE s lo 0 fun l => boundE s hi y.2.length fun h => ask (0 ≤ l ∧ l ≤ h ∧ h ≤ y.2.length)
      (K (s.put dst (.rd y.1 t.1 t.2.1 ((y.2.take h.toNat).drop l.toNat)))))

def ixE (s : St) (dst : Option Nat) (x i : Operand) (K : St → Prop) : Ix → Prop
  | .sl t => onInt (s.ev i) fun n => onRef (s.ev x)
      (fun id => onSome (s.sl t.2.1 (.ref id)) fun y => ask (0 ≤ n ∧ n < y.2.length) (K (s.put dst (.ptr id t.2.1 n.toNat 0))))
      (fun _ => False)
      (fun a => onSome (s.sl t.2.1 a) fun y => ask (0 ≤ n ∧ n < y.2.length) (K (s.put dst (.rp y.1 t.1 t.2.1 y.2 n.toNat 0))))
  | .ar m sz => onInt (s.ev i) fun n => ask (0 ≤ n ∧ n < m) (onAdr (s.ev x)
      (fun o e sz' els i k => K (s.put dst (.rp o e sz' els i (k + n.toNat * sz)))) (fun id sz' i k => K (s.put dst (.ptr id sz' i (k + n.toNat * sz)))))

def opE (P : Program) (H : Nat → Nat) (dst : Option Nat) (op : Op) (s : St) (K : St → Prop) : Prop :=
  match op with
  | .move x => K (s.put dst (s.ev x))
  | .assign x => K (s.put dst (s.ev x))
  | .pick c a b => onBool (s.ev c) fun t => ifB t (K (s.put dst (s.ev a))) (K (s.put dst (s.ev b)))
  | .binOp op _ x y _ => binE op (s.ev x) (s.ev y) fun u => K (s.put dst (.v u))
  | .unOp op _ x => unE op (s.ev x) fun u => K (s.put dst (.v u))
  | .convert src dt x => onSome (cvTy P src dt) fun
    | .int k => onInt (s.ev x) fun n => K (s.put dst (.v (.int k (k.wrap n))))
    | .bytes => onSome (s.sl 1 (s.ev x)) fun y => onBytes y.2 fun bs => K (s.put dst (.v (.string ⟨bs.toArray⟩)))
    | .str => onRef (s.ev x) (fun _ => False) (fun b => K (s.put dst (.v (.string b)))) (fun _ => False)
  | .indexAddr T x i => onSome (ixTy P T) (ixE s dst x i K)
  | .build T parts => onSome (bldTy P T) fun b => onSome (zeroC P T) fun z => onSome (fillE s b z parts.toList) fun cs => K (s.put dst (.agg cs))
  | .load T a => loadOp P T a s fun x => K (s.put dst x)
  | .store T a x => storeOp P T a x s fun s => K (s.put dst .any)
  | .fieldAddr S x j => onSome (fldTy P S j) fun t => ask (t.2.1 ≠ 0) (onAdr (s.ev x) (fun r e sz els i k => K (s.put dst (.rp r e sz els i (k + t.1)))) (fun id sz i k => K (s.put dst (.ptr id sz i (k + t.1)))))
  | .field S x j => onSome (fldTy P S j) fun t => onAgg (s.ev x) fun cs => onSome (cut t.2.2 t.2.1 t.1 cs (fun a => a)) fun x => K (s.put dst x)
  | .slice T x lo hi none => sliceOp P H dst T x lo hi s K
  | .makeSlice T n c => onSome (elTy P T) fun t => onSome (zeroC P t.1) fun z => onSome dst fun d => onInt (s.ev n) fun n => onInt (s.ev c) fun c =>
      ask (0 ≤ n ∧ n ≤ c ∧ c * t.2.2 ≤ 140737488355328 ∧ 0 < t.2.2) (K (s.new d (.row t.1 t.2.1 (List.replicate n.toNat (nilL (cty P t.1) z))) (.ref [d])))
  | .buildSlice T len parts => onSome (elTy P T) fun t => onSome dst fun d => onSome (partsOf s 0 parts.toList) fun els => onSome (zeroC P t.1) fun _ => ask (els.length = len ∧ 0 < t.2.1 ∧ len * t.2.1 ≤ 16777216) (onSome (s.clE t.2.1 (cty P t.1) els) fun y =>
      ask (indep y.2 = true) (K (((s.chg ([d] :: y.2) ([d] :: y.2)).obj [d] (.row t.1 t.2.1 y.1)).put (some d) (.ref [d]))))
  | .box t x => onSome (tySz P t) fun y => onSome dst fun d => withL (s.ev x).cells fun vc => ask (vc.length = y.1 ∧ vc.all okBox = true) (K (s.new d (.box t (killL [[d]] [[d]] vc)) (.ptr [d] 0 0 0)))
  | .alloc t => onSome (zeroC P t) fun z => onSome dst fun d => K (s.new d (.box t z) (.ptr [d] 0 0 0))
  | .nilCheck x => onAdr (s.ev x) (fun r e sz els i k => K (s.put dst (.rp r e sz els i k))) (fun id sz i k => K (s.put dst (.ptr id sz i k)))
  | .extract t k => onTup (s.ev t) fun cs => onSome (cs[k]?) fun c => K (s.put dst c)
  | .call c => callOp P H dst c s K
  | _ => False

/-- Operations in the order of the text. -/
def opsE (P : Program) (H : Nat → Nat) : List SOp → St → (St → Prop) → Prop
  | [], s, K => K s
  | ⟨dst, op, none⟩ :: l, s, K => opE P H dst op s (fun s' => opsE P H l s' K)
  | ⟨dst, op, some (some c, want)⟩ :: l, s, K =>
    onBool (s.env c) fun t => ifB (t == want) (opE P H dst op (s.put (some c) (.v (.bool want))) (fun s' => opsE P H l s' K)) (opsE P H l ((s.put (some c) (.v (.bool !want))).put dst .any) K)
  | ⟨_, _, some (none, _)⟩ :: _, _, _ => False

/-! ### code -/
inductive Ex where
  | normal
  | exit (id : Nat)
  | ret
def Ex.then (x : St → Prop) (Q : Ex → St → Prop) : Ex → St → Prop
  | .normal, s => x s
  | e, s => Q e s
def Ex.block (id : Nat) (Q : Ex → St → Prop) : Ex → St → Prop
  | .exit i, s => sel (i == id) (Q .normal s) (Q (.exit i) s)
  | e, s => Q e s
/-- A loop: what holds at each round's head, with a number that each round lowers. (Not to be opened: 'LoopE.of'.) -/
def LoopE (step : St → (Ex → St → Prop) → Prop) (s : St) (Q : Ex → St → Prop) : Prop :=
  ∃ (I : Nat → St → Prop) (n : Nat), I n s ∧ ∀ n s, I n s → step s (Ex.then (fun s' => ∃ n', n' < n ∧ I n' s') Q)
theorem LoopE.of {step : St → (Ex → St → Prop) → Prop} {s : St} {Q : Ex → St → Prop} (I : Nat → St → Prop) (n : Nat) (h : I n s) (hr : ∀ n s, I n s → step s (Ex.then (fun s' => ∃ n', n' < n ∧ I n' s') Q)) : LoopE step s Q :=
  ⟨I, n, h, hr⟩
def awp (P : Program) (H : Nat → Nat) : Code → St → (Ex → St → Prop) → Prop
  | .skip, s, Q => Q .normal s
  | .region _ ops _, s, Q => opsE P H (stripL ops ops.toList) s (Q .normal)
  | .seq a b, s, Q => awp P H a s (Ex.then (fun s' => awp P H b s' Q) Q)
  | .cond c a b, s, Q => onBool (s.ev c) fun t => ifB t (awp P H a s Q) (awp P H b s Q)
  | .block id c, s, Q => awp P H c s (Ex.block id Q)
  | .loop c, s, Q => LoopE (awp P H c) s Q
  | .exit id, s, Q => Q (.exit id) s
  | .ret, s, Q => Q .ret s
  | _, _, _ => False

/-! ### return -/
def boxOf : Option OB → Option (List AV)
  | some (.box _ cs) => some cs
  | _ => none
def ptrBox (s : St) : AV → Option (List AV × Nat)
  | .ptr id _ 0 k => bindO (boxOf (s.σ id)) fun cs => some (cs, k)
  | _ => none
def retA (P : Program) (s : St) : List ResultVar → Option (List AV)
  | [] => some []
  | .tmp t :: rs => bindO (retA P s rs) fun l => some (s.env t :: l)
  | .cell a T :: rs => bindO (tySz P T) fun t => bindO (ptrBox s (s.env a)) fun y => bindO (cut t.2 t.1 y.2 y.1 (fun a => a)) fun x => bindO (retA P s rs) fun l => some (x :: l)
def St.clA (s : St) : AV → Option (AV × List Id)
  | .agg cs => bindO (s.clL cs) fun x => some (.agg x.1, x.2)
  | a => s.clC a
def St.clAs (s : St) : List AV → Option (List AV × List Id)
  | [] => some ([], [])
  | c :: cs => bindO (s.clA c) fun x => bindO (s.clAs cs) fun y => some (x.1 :: y.1, x.2 ++ y.2)
def nilAs (P : Program) : List TypeId → List AV → List AV
  | t :: ts, a :: as => nilA (cty P t) a :: nilAs P ts as
  | _, as => as
def tupOf : List AV → AV
  | [r] => r
  | rs => .tup rs
def retE (P : Program) (rs : List ResultVar) (ts : List TypeId) (s : St) (post : AV → Prop) : Prop :=
  onSome (retA P s rs) fun l => onSome (s.clAs l) fun y => ask (indep y.2 = true) (post (tupOf (nilAs P ts y.1)))
def RetQ (P : Program) (rs : List ResultVar) (ts : List TypeId) (post : AV → Prop) : Ex → St → Prop
  | .normal, s => retE P rs ts s post
  | .ret, s => retE P rs ts s post
  | _, _ => False

/-- The state at a function's entry. -/
def asrdA : AV → AV
  | .agg cs => .agg (cs.map (AV.asrd .ent))
  | a => a.asrd .ent
def initE (args : List AV) : Nat → AV := fun k => match args[k]? with | some a => asrdA a | none => .any
def initS : Id → Option OB := fun _ => none
def St.init (args : List AV) : St := ⟨initE args, initS⟩

/-! ### what is looked at once -/
def quietN (ops : Array Oper) (q : Op → Bool) : Nat := (ops.toList.takeWhile fun o => q o.op).length
def quietOp : Op → Bool
  | .move _ | .assign _ | .pick .. | .binOp .. | .unOp .. | .convert .. | .indexAddr .. | .build .. | .load .. | .fieldAddr .. | .field .. | .slice .. | .nilCheck _ | .extract .. => true
  | .call c => match c.callee with | .builtin .len | .builtin .min => true | _ => false
  | _ => false
def wfOps (n : Nat) (ops : Array Oper) : Bool := ops.all fun o => match o.dst with | some d => decide (d < n) | none => true
def wfCode (n : Nat) : Code → Bool
  | .region _ ops draw => wfOps n ops && (!draw || (Region.lexB .any ops && ops.all fun o => quietOp o.op) || Region.lexTailB .any ops (quietN ops quietOp))
  | .seq a b => wfCode n a && wfCode n b
  | .cond _ a b => wfCode n a && wfCode n b
  | .block _ c => wfCode n c
  | .loop c => wfCode n c
  | .skip | .exit _ | .ret => true
  | _ => false

end Go.Ev
