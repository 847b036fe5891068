/- The evaluator, part 4: its rules, for simp. -/
import Derived.Test.YtijmbcnhkdhkeaaEvc
set_option linter.unusedVariables false
set_option linter.unusedSimpArgs false
namespace Go.Ev
open Go Go.RowKit
section
variable {P : Program} {H : Nat → Nat} {O : Nat → List Nat} {e : Nat → AV} {σ : Id → Option OB} {Q : Ex → St → Prop} {K : St → Prop}
theorem awp_skip (s : St) : awp P H O .skip s Q = Q .normal s := rfl
theorem awp_region (id : Nat) (ops : List Oper) : awp P H O (.region id ops.toArray false) ⟨e, σ⟩ Q = opsE P H (stripL ops.toArray ops) ⟨e, σ⟩ (Q .normal) := rfl
theorem awp_draw (id : Nat) (ops : List Oper) : awp P H O (.region id ops.toArray true) ⟨e, σ⟩ Q = regE P H ops.toArray (O id) ⟨e, σ⟩ (Q .normal) := rfl
theorem regE_nil (ops : List Oper) : regE P H ops.toArray [] ⟨e, σ⟩ K = opsE P H (stripL ops.toArray ops) ⟨e, σ⟩ K := rfl
theorem regE_cons (ops : List Oper) (i : Nat) (π : List Nat) : regE P H ops.toArray (i :: π) ⟨e, σ⟩ K = selL (i == 998) (opsM P H ops.toArray π ⟨e, σ⟩ K) (selL (i == 999) (opsD P (hBl H) ops.toArray [] π ⟨e, σ⟩ K) (opsE P (hBl H) (stripL ops.toArray (opsAt ops.toArray (i :: π))) ⟨e, σ⟩ K) .mk .mk) .mk .mk := rfl
theorem opsM_nil (ops : Array Oper) (s : St) : opsM P H ops [] s K = K s := rfl
theorem opsM_cons (ops : List Oper) (i : Nat) (π : List Nat) : opsM P H ops.toArray (i :: π) ⟨e, σ⟩ K = selL (isY i)
    (onOp (ops[i]?) fun o => opsE P (hBl H) (stripL ops.toArray [o]) ⟨e, σ⟩ fun s' => opsM P H ops.toArray π s' K)
    (onOp (ops[i - 2000]?) fun o => opsE P H (stripL ops.toArray [o]) ⟨e, σ⟩ fun s' => opsM P H ops.toArray π s' K) .mk .mk := by
  show sel _ (onOp (ops.toArray[i]?) _) (onOp (ops.toArray[i - 2000]?) _) = _
  rw [List.getElem?_toArray, List.getElem?_toArray]
  rfl
theorem opsD_nil (ops : Array Oper) (ann : List Nat) (s : St) : opsD P H ops ann [] s K = K s := rfl
theorem opsD_cons (ops : List Oper) (ann : List Nat) (i : Nat) (π : List Nat) : opsD P H ops.toArray ann (i :: π) ⟨e, σ⟩ K = selL (isX i)
    (onOp (ops[i]?) fun o => opsE P H (stripL ops.toArray [o]) ⟨e, σ⟩ fun s' => opsD P H ops.toArray (rmD o.dst ann) π (s'.anys (rmD o.dst ann)) K)
    (onOp (ops[i - 1000]?) fun o => onSome o.dst fun d => ask (opE P H (some d) o.op ⟨e, σ⟩ (fun _ => True)) (opsD P H ops.toArray (d :: ann) π (St.anys ⟨e, σ⟩ [d]) K)) .mk .mk := by
  show sel _ (onOp (ops.toArray[i]?) _) (onOp (ops.toArray[i - 1000]?) _) = _
  rw [List.getElem?_toArray, List.getElem?_toArray]
  rfl
theorem onOp_some (o : Oper) (k : Oper → Prop) : onOp (some o) k = k o := rfl
theorem rmD_nil (d : Option Nat) : rmD d [] = [] := rfl
theorem rmD_cons (d x : Nat) (xs : List Nat) : rmD (some d) (x :: xs) = sel (x == d) (rmD (some d) xs) (x :: rmD (some d) xs) := rfl
theorem rmD_none (x : Nat) (xs : List Nat) : rmD none (x :: xs) = x :: xs := rfl
theorem anys_nil (s : St) : s.anys [] = s := rfl
theorem anys_cons (d : Nat) (ds : List Nat) (s : St) : s.anys (d :: ds) = (s.anys ds).put (some d) .any := rfl
theorem ask_assoc (p r q : Prop) : ask (ask p r) q = ask p (ask r q) := by simp [ask, and_assoc]
theorem hBl_get (d : Nat) : hBl H d = sel (d == 1000000) 1 (H d) := rfl
def consO : Option Oper → List Oper → List Oper
  | some o, l => o :: l
  | none, l => l
theorem consO_some (o : Oper) (l : List Oper) : consO (some o) l = o :: l := rfl
theorem opsAt_nil (ops : Array Oper) : opsAt ops [] = [] := rfl
theorem opsAt_cons (ops : List Oper) (i : Nat) (π : List Nat) : opsAt ops.toArray (i :: π) = consO (ops[i]?) (opsAt ops.toArray π) := by
  cases h : ops[i]? <;> simp [opsAt, List.filterMap_cons, h, consO]
theorem awp_seq (a b : Code) : awp P H O (.seq a b) ⟨e, σ⟩ Q = awp P H O a ⟨e, σ⟩ (Ex.then (fun s' => awp P H O b s' Q) Q) := rfl
theorem awp_cond (c : Operand) (a b : Code) : awp P H O (.cond c a b) ⟨e, σ⟩ Q = onBool (St.ev ⟨e, σ⟩ c) fun t => ifB t (awp P H O a ⟨e, σ⟩ Q) (awp P H O b ⟨e, σ⟩ Q) := rfl
theorem awp_block (id : Nat) (c : Code) : awp P H O (.block id c) ⟨e, σ⟩ Q = awp P H O c ⟨e, σ⟩ (Ex.block id Q) := rfl
theorem awp_loop (c : Code) : awp P H O (.loop c) ⟨e, σ⟩ Q = LoopE (awp P H O c) ⟨e, σ⟩ Q := rfl
theorem awp_exit (id : Nat) (s : St) : awp P H O (.exit id) s Q = Q (.exit id) s := rfl
theorem awp_ret (s : St) : awp P H O .ret s Q = Q .ret s := rfl
theorem then_normal (x : St → Prop) (s : St) : Ex.then x Q .normal s = x s := rfl
theorem then_exit (x : St → Prop) (i : Nat) (s : St) : Ex.then x Q (.exit i) s = Q (.exit i) s := rfl
theorem then_ret (x : St → Prop) (s : St) : Ex.then x Q .ret s = Q .ret s := rfl
theorem block_exit (id i : Nat) (s : St) : Ex.block id Q (.exit i) s = sel (i == id) (Q .normal s) (Q (.exit i) s) := rfl
theorem block_normal (id : Nat) (s : St) : Ex.block id Q .normal s = Q .normal s := rfl
theorem block_ret (id : Nat) (s : St) : Ex.block id Q .ret s = Q .ret s := rfl
theorem stripL_nil (all : Array Oper) : stripL all [] = [] := rfl
theorem stripL_cons (all : Array Oper) (d : Option Tmp) (o : Op) (t : TypeId) (p : String) (a : Array Edge) (g : Option (Nat × Bool)) (l : List Oper) : stripL all (⟨d, o, t, p, a, g⟩ :: l) = ⟨d, o, gOf all g⟩ :: stripL all l := rfl
theorem gOf_none (all : Array Oper) : gOf all none = none := rfl
theorem gOf_some (all : List Oper) (j : Nat) (w : Bool) : gOf all.toArray (some (j, w)) = some (dstO (all[j]?), w) := by simp [gOf]
theorem dstO_mk (d : Option Tmp) (o : Op) (t : TypeId) (p : String) (a : Array Edge) (g : Option (Nat × Bool)) : dstO (some ⟨d, o, t, p, a, g⟩) = d := rfl
theorem opsE_nil (s : St) : opsE P H [] s K = K s := rfl
theorem opsE_none (d : Option Nat) (o : Op) (l : List SOp) : opsE P H (⟨d, o, none⟩ :: l) ⟨e, σ⟩ K = opE P H d o ⟨e, σ⟩ (fun s' => opsE P H l s' K) := rfl
theorem opsE_some (d : Option Nat) (o : Op) (c : Nat) (w : Bool) (l : List SOp) : opsE P H (⟨d, o, some (some c, w)⟩ :: l) ⟨e, σ⟩ K =
    onGd (e c) (fun t => ifB (t == w) (opE P H d o ⟨upd e c (.v (.bool w)), σ⟩ (fun s' => opsE P H l s' K)) (opsE P H l (St.put ⟨upd e c (.v (.bool !w)), σ⟩ d (.tup [])) K)) (opsE P H l (St.put ⟨e, σ⟩ d (.tup [])) K) := rfl
theorem put_some (d : Nat) (a : AV) : St.put ⟨e, σ⟩ (some d) a = ⟨upd e d a, σ⟩ := rfl
theorem put_none (s : St) (a : AV) : St.put s none a = s := rfl
theorem new_mk (d : Nat) (ob : OB) (a : AV) : St.new ⟨e, σ⟩ d ob a = ⟨upd (killE e [[d]] [[d]]) d a, updS (killS σ [[d]] [[d]]) [d] ob⟩ := rfl
theorem chg_mk (I J : List Id) : St.chg ⟨e, σ⟩ I J = ⟨killE e I J, killS σ I J⟩ := rfl
theorem obj_mk (id : Id) (ob : OB) : St.obj ⟨e, σ⟩ id ob = ⟨e, updS σ id ob⟩ := rfl
theorem ret_some (d : Nat) (r : AV) : St.ret ⟨e, σ⟩ (some d) r = ⟨upd (killE e [[d]] [[d]]) d (opnA d r).1, updL (killS σ [[d]] [[d]]) (opnA d r).2⟩ := rfl
theorem ret_none (s : St) (r : AV) : St.ret s none r = s := rfl
theorem retQ_normal (rs : List ResultVar) (ts : List TypeId) (post : AV → Prop) (s : St) : RetQ P rs ts post .normal s = retE P rs ts s post := rfl
theorem retQ_ret (rs : List ResultVar) (ts : List TypeId) (post : AV → Prop) (s : St) : RetQ P rs ts post .ret s = retE P rs ts s post := rfl
theorem retM_mk (ps : List PA) (as : List AV) (d : Option Nat) (r : AV) (rs : List AV) : St.retM ⟨e, σ⟩ ps as d r rs = St.ret ⟨killE e (St.dead ⟨e, σ⟩ ps as rs ++ chN ps as) (St.roots ⟨e, σ⟩ ps as ++ chN ps as), updL (killS σ (St.dead ⟨e, σ⟩ ps as rs ++ chN ps as) (St.roots ⟨e, σ⟩ ps as ++ chN ps as)) (St.backs ⟨e, σ⟩ ps as rs)⟩ d r := rfl
theorem retQM_normal (rs : List ResultVar) (ts pts : List TypeId) (vals : Nat → Value) (ps : List PA) (post : AV → List AV → Prop) (s : St) : RetQM P rs ts pts vals ps post .normal s = retEM P rs ts pts vals ps s post := rfl
theorem retQM_ret (rs : List ResultVar) (ts pts : List TypeId) (vals : Nat → Value) (ps : List PA) (post : AV → List AV → Prop) (s : St) : RetQM P rs ts pts vals ps post .ret s = retEM P rs ts pts vals ps s post := rfl
theorem rowC_row (sz i k : Nat) (x sz' : Nat) (xs : List (List AV)) : rowCell sz i k (some (.row x sz' xs)) = sel (sz' == sz) (bindO (cellAt xs i k) fun c => match c with | .row e s els => some (.row e s els) | _ => none) none := rfl
theorem ev_tmp (t : Nat) : St.ev ⟨e, σ⟩ (.tmp t) = e t := rfl
theorem ev_const (v : Value) : St.ev ⟨e, σ⟩ (.const v) = constAV v := rfl
theorem ev_func (f : Nat) (s : St) : St.ev s (.func f) = .v (.func (.func f) #[] #[]) := rfl
theorem constAV_int (k : IntKind) (n : Int) : constAV (.int k n) = .v (.int k n) := rfl
theorem constAV_bool (b : Bool) : constAV (.bool b) = .v (.bool b) := rfl
theorem constAV_string (s : ByteArray) : constAV (.string s) = .v (.string s) := rfl
theorem constAV_slice (a : Option Addr) (n c : Nat) : constAV (.slice a n c) = .v (.slice a n c) := rfl
theorem constAV_agg (cs : List Value) : constAV (.agg cs.toArray) = if cs.toArray.all oneB then .agg (cs.map .v) else .any := rfl
theorem sl_rd (o : Org) (x sz sz' : Nat) (els : List (List AV)) (s : St) : s.sl sz (.rd o x sz' els) = sel (sz' == sz) (some (o, els)) none := rfl
theorem sl_ref (id : Id) (sz : Nat) : St.sl ⟨e, σ⟩ sz (.ref id) = rowOf sz (.obj id) (σ id) := rfl
theorem sl_nil (sz : Nat) (s : St) : s.sl sz (.v (.slice none 0 0)) = some (.ent, []) := rfl
theorem rowOf_row (sz : Nat) (r : Org) (x sz' : Nat) (els : List (List AV)) : rowOf sz r (some (.row x sz' els)) = sel (sz' == sz) (some (r, els)) none := rfl
-- operations
theorem opE_move (d : Option Nat) (x : Operand) : opE P H d (.move x) ⟨e, σ⟩ K = K (St.put ⟨e, σ⟩ d (St.ev ⟨e, σ⟩ x)) := rfl
theorem opE_asg_nil (d : Nat) : opE P H (some d) (.assign (.const (.slice none 0 0))) ⟨e, σ⟩ K = sel (H d == 0) (K (St.put ⟨e, σ⟩ (some d) (.v (.slice none 0 0)))) (onSome (elTy P (H d - 100)) fun t => K (St.new ⟨e, σ⟩ d (.row t.1 t.2.1 []) (.ref [d]))) := rfl
theorem opE_asg_tmp (d : Option Nat) (t : Nat) : opE P H d (.assign (.tmp t)) ⟨e, σ⟩ K = K (St.put ⟨e, σ⟩ d (St.ev ⟨e, σ⟩ (.tmp t))) := by cases d <;> rfl
theorem opE_asg_int (d : Option Nat) (k : IntKind) (x : Int) : opE P H d (.assign (.const (.int k x))) ⟨e, σ⟩ K = K (St.put ⟨e, σ⟩ d (St.ev ⟨e, σ⟩ (.const (.int k x)))) := by cases d <;> rfl
theorem opE_asg_bool (d : Option Nat) (x : Bool) : opE P H d (.assign (.const (.bool x))) ⟨e, σ⟩ K = K (St.put ⟨e, σ⟩ d (St.ev ⟨e, σ⟩ (.const (.bool x)))) := by cases d <;> rfl
theorem opE_asg_str (d : Option Nat) (x : ByteArray) : opE P H d (.assign (.const (.string x))) ⟨e, σ⟩ K = K (St.put ⟨e, σ⟩ d (St.ev ⟨e, σ⟩ (.const (.string x)))) := by cases d <;> rfl
theorem opE_asg_agg (d : Option Nat) (x : Array Value) : opE P H d (.assign (.const (.agg x))) ⟨e, σ⟩ K = K (St.put ⟨e, σ⟩ d (St.ev ⟨e, σ⟩ (.const (.agg x)))) := by cases d <;> rfl
theorem opE_asg_iface (d : Option Nat) : opE P H d (.assign (.const .nilIface)) ⟨e, σ⟩ K = K (St.put ⟨e, σ⟩ d (St.ev ⟨e, σ⟩ (.const .nilIface))) := by cases d <;> rfl
theorem opE_asg_ptr (d : Option Nat) (x : Option Addr) : opE P H d (.assign (.const (.pointer x))) ⟨e, σ⟩ K = K (St.put ⟨e, σ⟩ d (St.ev ⟨e, σ⟩ (.const (.pointer x)))) := by cases d <;> rfl
theorem opE_asg_map (d : Option Nat) (x : Option Nat) : opE P H d (.assign (.const (.map x))) ⟨e, σ⟩ K = K (St.put ⟨e, σ⟩ d (St.ev ⟨e, σ⟩ (.const (.map x)))) := by cases d <;> rfl
theorem opE_asg_func (d : Option Nat) (f : Nat) : opE P H d (.assign (.func f)) ⟨e, σ⟩ K = K (St.put ⟨e, σ⟩ d (St.ev ⟨e, σ⟩ (.func f))) := by cases d <;> rfl
theorem hint_nil (d : Nat) : hint [] d = 0 := rfl
theorem hint_cons (k v : Nat) (l : List (Nat × Nat)) (d : Nat) : hint ((k, v) :: l) d = sel (d == k) v (hint l d) := rfl
theorem opE_pick (d : Option Nat) (c a b : Operand) : opE P H d (.pick c a b) ⟨e, σ⟩ K = onBool (St.ev ⟨e, σ⟩ c) fun t => ifB t (K (St.put ⟨e, σ⟩ d (St.ev ⟨e, σ⟩ a))) (K (St.put ⟨e, σ⟩ d (St.ev ⟨e, σ⟩ b))) := rfl
theorem opE_bin (d : Option Nat) (op : BinOp) (t u : TypeId) (x y : Operand) : opE P H d (.binOp op t x y u) ⟨e, σ⟩ K = binT P t σ op (St.ev ⟨e, σ⟩ x) (St.ev ⟨e, σ⟩ y) fun u => K (St.put ⟨e, σ⟩ d (.v u)) := rfl
theorem opE_un (d : Option Nat) (op : UnOp) (t : TypeId) (x : Operand) : opE P H d (.unOp op t x) ⟨e, σ⟩ K = unE op (St.ev ⟨e, σ⟩ x) fun u => K (St.put ⟨e, σ⟩ d (.v u)) := rfl
def cvE (s : St) (d : Option Nat) (x : Operand) (K : St → Prop) : Cv → Prop
  | .int k => onInt (s.ev x) fun n => K (s.put d (.v (.int k (k.wrap n))))
  | .bytes => onSome (s.sl 1 (s.ev x)) fun y => onBytes y.2 fun bs => K (s.put d (.v (.string ⟨bs.toArray⟩)))
  | .str => onRef (s.ev x) (fun _ => False) (fun b => K (s.put d (.v (.string b)))) (fun _ => False)
theorem opE_convert (d : Option Nat) (t u : TypeId) (x : Operand) : opE P H d (.convert t u x) ⟨e, σ⟩ K = onSome (cvTy P t u) (cvE ⟨e, σ⟩ d x K) := by
  show onSome _ _ = onSome _ _
  congr 1
theorem cvE_int (k : IntKind) (d : Option Nat) (x : Operand) : cvE ⟨e, σ⟩ d x K (.int k) = onInt (St.ev ⟨e, σ⟩ x) fun n => K (St.put ⟨e, σ⟩ d (.v (.int k (k.wrap n)))) := rfl
theorem cvE_bytes (d : Option Nat) (x : Operand) : cvE ⟨e, σ⟩ d x K .bytes = onSome (St.sl ⟨e, σ⟩ 1 (St.ev ⟨e, σ⟩ x)) fun y => onBytes y.2 fun bs => K (St.put ⟨e, σ⟩ d (.v (.string ⟨bs.toArray⟩))) := rfl
theorem cvE_str (d : Option Nat) (x : Operand) : cvE ⟨e, σ⟩ d x K .str = onRef (St.ev ⟨e, σ⟩ x) (fun _ => False) (fun b => K (St.put ⟨e, σ⟩ d (.v (.string b)))) (fun _ => False) := rfl
theorem opE_indexAddr (d : Option Nat) (T : TypeId) (x i : Operand) : opE P H d (.indexAddr T x i) ⟨e, σ⟩ K = onSome (ixTy P T) (ixE ⟨e, σ⟩ d x i K) := rfl
theorem ixE_sl (d : Option Nat) (x i : Operand) (t : Nat × Nat × Nat) : ixE ⟨e, σ⟩ d x i K (.sl t) = onInt (St.ev ⟨e, σ⟩ i) fun n => onRef (St.ev ⟨e, σ⟩ x)
      (fun id => onSome (St.sl ⟨e, σ⟩ t.2.1 (.ref id)) fun y => ask (0 ≤ n ∧ n < y.2.length) (K (St.put ⟨e, σ⟩ d (.ptr id t.2.1 n.toNat 0))))
      (fun _ => False)
      (fun a => onSome (St.sl ⟨e, σ⟩ t.2.1 a) fun y => ask (0 ≤ n ∧ n < y.2.length) (K (St.put ⟨e, σ⟩ d (.rp y.1 t.1 t.2.1 y.2 n.toNat 0)))) := rfl
theorem ixE_ar (d : Option Nat) (x i : Operand) (m sz : Nat) : ixE ⟨e, σ⟩ d x i K (.ar m sz) = onInt (St.ev ⟨e, σ⟩ i) fun n => ask (0 ≤ n ∧ n < m) (onAdr (St.ev ⟨e, σ⟩ x)
      (fun o u sz' els i k => K (St.put ⟨e, σ⟩ d (.rp o u sz' els i (k + n.toNat * sz)))) (fun id sz' i k => K (St.put ⟨e, σ⟩ d (.ptr id sz' i (k + n.toNat * sz))))) := rfl
theorem opE_build (d : Option Nat) (T : TypeId) (parts : List (Nat × Operand)) : opE P H d (.build T parts.toArray) ⟨e, σ⟩ K = onSome (bldTy P T) fun b => onSome (zeroC P T) fun z => onSome (fillE ⟨e, σ⟩ b z parts) fun cs => K (St.put ⟨e, σ⟩ d (.agg cs)) := rfl
theorem opE_load (d : Option Nat) (T : TypeId) (a : Operand) : opE P H d (.load T a) ⟨e, σ⟩ K = onSome (tySz P T) fun t => onAdr (St.ev ⟨e, σ⟩ a)
    (fun r _ _ els i k => onSome (els[i]?) fun cs => onSome (cut t.2 t.1 k cs (AV.asrd r)) fun x => K (St.put ⟨e, σ⟩ d x))
    (fun id sz i k => onOB (σ id) (fun _ sz' els => ask (sz' = sz) (onSome (els[i]?) fun cs => onSome (cut t.2 t.1 k cs (sel t.2 (AV.asrd (.obj id)) (AV.asat id sz' i k))) fun x => K (St.put ⟨e, σ⟩ d x)))
      (fun _ cs => ask (i = 0) (onSome (cut t.2 t.1 k cs (fun a => a)) fun x => K (St.put ⟨e, σ⟩ d x)))) := rfl
theorem opE_store (d : Option Nat) (T : TypeId) (a x : Operand) : opE P H d (.store T a x) ⟨e, σ⟩ K = onSome (tySz P T) fun t => withL (St.ev ⟨e, σ⟩ x).cells fun vc => ask (vc.length = t.1) (onAdr (St.ev ⟨e, σ⟩ a)
    (fun _ _ _ _ _ _ => False)
    (fun id sz' i k => onOB (σ id)
      (fun u sz els => onSome (els[i]?) fun cs => onSome (St.clL ⟨e, σ⟩ vc) fun vs => ask (sz = sz' ∧ k + t.1 ≤ cs.length ∧ indep vs.2 = true ∧ hit vs.2 id = false)
        (K (St.put ((St.chg ⟨e, σ⟩ vs.2 (id :: vs.2)).obj id (.row u sz (els.set i (setAt (nilL ((cty P u).drop k) vs.1) k cs)))) d .any)))
      (fun t' cs => ask (i = 0 ∧ k + t.1 ≤ cs.length ∧ vc.all okBox = true)
        (K (St.put ((St.chg ⟨e, σ⟩ [] [id]).obj id (.box t' (setAt (killL [] [id] vc) k (killL [] [id] cs)))) d .any))))) := rfl
theorem opE_fieldAddr (d : Option Nat) (S : TypeId) (x : Operand) (j : Nat) : opE P H d (.fieldAddr S x j) ⟨e, σ⟩ K = onSome (fldTy P S j) fun t => ask (t.2.1 ≠ 0) (onAdr (St.ev ⟨e, σ⟩ x)
    (fun r u sz els i k => K (St.put ⟨e, σ⟩ d (.rp r u sz els i (k + t.1)))) (fun id sz i k => K (St.put ⟨e, σ⟩ d (.ptr id sz i (k + t.1))))) := rfl
theorem opE_field (d : Option Nat) (S : TypeId) (x : Operand) (j : Nat) : opE P H d (.field S x j) ⟨e, σ⟩ K = onSome (fldTy P S j) fun t => onAgg (St.ev ⟨e, σ⟩ x) fun cs => onSome (cut t.2.2 t.2.1 t.1 cs (fun a => a)) fun x => K (St.put ⟨e, σ⟩ d x) := rfl
theorem opE_slice (d : Option Nat) (T : TypeId) (x : Operand) (lo hi : Option Operand) : opE P H d (.slice T x lo hi none) ⟨e, σ⟩ K = onRef (St.ev ⟨e, σ⟩ x)
    (fun id => onSome (elTy P T) fun t => onOB (σ id) (fun u sz els => boundE ⟨e, σ⟩ lo 0 fun l => boundE ⟨e, σ⟩ hi els.length fun h => ask (sz = t.2.1 ∧ 0 ≤ l ∧ l ≤ h ∧ h ≤ els.length)
      (onSome d fun d' => sel (H d' == 1)
        (K (St.put ((St.chg ⟨e, σ⟩ [id] [id]).obj id (.row u sz ((els.take h.toNat).drop l.toNat))) d (.ref id)))
        (K (St.put ⟨e, σ⟩ d (.rd (.obj id) u sz ((els.take h.toNat).drop l.toNat)))))) (fun _ _ => False))
    (fun b => onSome (strTy P T) fun _ => boundE ⟨e, σ⟩ lo 0 fun l => boundE ⟨e, σ⟩ hi b.size fun h => ask (0 ≤ l ∧ l ≤ h ∧ h ≤ b.size) (K (St.put ⟨e, σ⟩ d (.v (.string (b.extract l.toNat h.toNat))))))
    (fun a => onSome (elTy P T) fun t => onSome (St.sl ⟨e, σ⟩ t.2.1 a) fun y => boundE ⟨e, σ⟩ lo 0 fun l => boundE ⟨e, σ⟩ hi y.2.length fun h => ask (0 ≤ l ∧ l ≤ h ∧ h ≤ y.2.length)
      (K (St.put ⟨e, σ⟩ d (slR a (.rd y.1.base t.1 t.2.1 ((y.2.take h.toNat).drop l.toNat)))))) := rfl
theorem boundE_none (s : St) (d : Int) (k : Int → Prop) : boundE s none d k = k d := rfl
theorem boundE_some (x : Operand) (d : Int) (k : Int → Prop) : boundE ⟨e, σ⟩ (some x) d k = onInt (St.ev ⟨e, σ⟩ x) k := rfl
theorem opE_makeSlice (d : Option Nat) (T : TypeId) (n c : Operand) : opE P H d (.makeSlice T n c) ⟨e, σ⟩ K = onSome (elTy P T) fun t => onSome (zeroC P t.1) fun z => onSome d fun d => onInt (St.ev ⟨e, σ⟩ n) fun n => onInt (St.ev ⟨e, σ⟩ c) fun c =>
      ask (0 ≤ n ∧ n ≤ c ∧ c * t.2.2 ≤ 140737488355328 ∧ 0 < t.2.2) (K (St.new ⟨e, σ⟩ d (.row t.1 t.2.1 (List.replicate n.toNat (nilL (cty P t.1) z))) (.ref [d]))) := rfl
theorem opE_buildSlice (d : Option Nat) (T : TypeId) (len : Nat) (parts : List (Nat × Operand)) : opE P H d (.buildSlice T len parts.toArray) ⟨e, σ⟩ K = onSome (elTy P T) fun t => onSome d fun d => onSome (partsOf ⟨e, σ⟩ 0 parts) fun els => onSome (zeroC P t.1) fun _ => ask (els.length = len ∧ 0 < t.2.1 ∧ len * t.2.1 ≤ 16777216) (onSome (St.clE ⟨e, σ⟩ t.2.1 (cty P t.1) els) fun y =>
      ask (indep y.2 = true) (K (((St.chg ⟨e, σ⟩ ([d] :: y.2) ([d] :: y.2)).obj [d] (.row t.1 t.2.1 y.1)).put (some d) (.ref [d])))) := rfl
theorem opE_box (d : Option Nat) (t : TypeId) (x : Operand) : opE P H d (.box t x) ⟨e, σ⟩ K = onSome (tySz P t) fun y => onSome d fun d => withL (St.ev ⟨e, σ⟩ x).cells fun vc => ask (vc.length = y.1 ∧ vc.all okBox = true) (K (St.new ⟨e, σ⟩ d (.box t (killL [[d]] [[d]] vc)) (.ptr [d] 0 0 0))) := rfl
theorem opE_lookup (d : Option Nat) (T : TypeId) (x i : Operand) (c : Bool) : opE P H d (.lookup T x i c) ⟨e, σ⟩ K = onSome (mapTy P T) fun t => onSome (zeroV P t.2) fun z => onRef (St.ev ⟨e, σ⟩ x) (fun id => onMp (σ id) fun d' _ l => onV (St.ev ⟨e, σ⟩ i) fun u => ask (d' = t.1 ∧ MapKept.IsKey d' u) (K (St.put ⟨e, σ⟩ d (mapAns c z l u)))) (fun _ => False) (fun _ => False) := rfl
theorem opE_mapUpdate (d : Option Nat) (T : TypeId) (x i y : Operand) : opE P H d (.mapUpdate T x i y) ⟨e, σ⟩ K = onSome (mapTy P T) fun t => onRef (St.ev ⟨e, σ⟩ x) (fun id => onMp (σ id) fun d' e' l => onV (St.ev ⟨e, σ⟩ i) fun u => onV (St.ev ⟨e, σ⟩ y) fun v => ask (d' = t.1 ∧ MapKept.IsKey d' u) (K (St.put ((St.chg ⟨e, σ⟩ [] [id]).obj id (.mp d' e' (mput l u v))) d .any))) (fun _ => False) (fun _ => False) := rfl
theorem opE_makeMap (d : Option Nat) (T : TypeId) : opE P H d (.makeMap T none) ⟨e, σ⟩ K = onSome (mapTy P T) fun t => onSome d fun d => K (St.new ⟨e, σ⟩ d (.mp t.1 t.2 []) (.ref [d])) := rfl
theorem opE_alloc (d : Option Nat) (t : TypeId) : opE P H d (.alloc t) ⟨e, σ⟩ K = onSome (zeroC P t) fun z => onSome d fun d => K (St.new ⟨e, σ⟩ d (.box t z) (.ptr [d] 0 0 0)) := rfl
theorem opE_nilCheck (d : Option Nat) (x : Operand) : opE P H d (.nilCheck x) ⟨e, σ⟩ K = onAdr (St.ev ⟨e, σ⟩ x) (fun r u sz els i k => K (St.put ⟨e, σ⟩ d (.rp r u sz els i k))) (fun id sz i k => K (St.put ⟨e, σ⟩ d (.ptr id sz i k))) := rfl
theorem opE_extract (d : Option Nat) (x : Operand) (k : Nat) : opE P H d (.extract x k) ⟨e, σ⟩ K = onTup (St.ev ⟨e, σ⟩ x) fun cs => onSome (cs[k]?) fun c => K (St.put ⟨e, σ⟩ d c) := rfl
theorem opE_call (d : Option Nat) (c : Call) : opE P H d (.call c) ⟨e, σ⟩ K = callOp P H d c ⟨e, σ⟩ K := rfl
theorem evs_nil (s : St) : List.map s.ev [] = [] := rfl
theorem evs_cons (s : St) (x : Operand) (xs : List Operand) : List.map s.ev (x :: xs) = s.ev x :: List.map s.ev xs := rfl
theorem callOp_tmp (d : Option Nat) (t : Nat) (as : List Operand) (ts : Array TypeId) : callOp P H d ⟨.value (.tmp t), as.toArray, ts⟩ ⟨e, σ⟩ K = onFn (e t) fun f cs => CallV P f (List.map (St.ev ⟨e, σ⟩) as) cs ⟨e, σ⟩ d K := rfl
theorem opE_makeFunc (d : Option Nat) (f : Nat) (caps : List Operand) : opE P H d (.makeFunc (.func f) #[] caps.toArray) ⟨e, σ⟩ K = K (St.put ⟨e, σ⟩ d (.fn f (List.map (St.ev ⟨e, σ⟩) caps))) := rfl
theorem callOp_invoke (d : Option Nat) (x : Operand) (nm : String) (as : List Operand) (ts : Array TypeId) : callOp P H d ⟨.invoke x nm, as.toArray, ts⟩ ⟨e, σ⟩ K = onIfc (St.ev ⟨e, σ⟩ x) fun t y => onSome (methF P t nm) fun f => CallI P f (y :: List.map (St.ev ⟨e, σ⟩) as) ⟨e, σ⟩ d K := rfl
theorem opE_makeInterface (d : Option Nat) (T : TypeId) (x : Operand) : opE P H d (.makeInterface T x) ⟨e, σ⟩ K = onSome (ifcTy P T) fun _ => K (St.put ⟨e, σ⟩ d (.ifc T (St.ev ⟨e, σ⟩ x))) := rfl
theorem callOp_func (d : Option Nat) (f : Nat) (as : List Operand) (ts : Array TypeId) : callOp P H d ⟨.value (.func f), as.toArray, ts⟩ ⟨e, σ⟩ K = CallE P H f (List.map (St.ev ⟨e, σ⟩) as) ⟨e, σ⟩ d K := rfl
theorem callOp_len (d : Option Nat) (x : Operand) (T : TypeId) : callOp P H d ⟨.builtin .len, #[x], #[T]⟩ ⟨e, σ⟩ K =
    onRef (St.ev ⟨e, σ⟩ x) (fun id => onRL (σ id) (fun els => onSome (elTy P T) fun _ => K (St.put ⟨e, σ⟩ d (.v (.int .i64 els.length)))) (fun l => onSome (mapTy P T) fun _ => K (St.put ⟨e, σ⟩ d (.v (.int .i64 l.length))))) (fun b => onSome (strTy P T) fun _ => K (St.put ⟨e, σ⟩ d (.v (.int .i64 b.size))))
      (fun a => onSome (elTy P T) fun t => onSome (St.sl ⟨e, σ⟩ t.2.1 a) fun y => K (St.put ⟨e, σ⟩ d (.v (.int .i64 y.2.length)))) := rfl
theorem callOp_cap (d : Option Nat) (x : Operand) (T : TypeId) : callOp P H d ⟨.builtin .cap, #[x], #[T]⟩ ⟨e, σ⟩ K = onSome (elTy P T) fun _ => onNil (St.ev ⟨e, σ⟩ x) (K (St.put ⟨e, σ⟩ d (.v (.int .i64 0)))) := rfl
theorem callOp_append (d : Option Nat) (x y : Operand) (T T' : TypeId) : callOp P H d ⟨.builtin .append, #[x, y], #[T, T']⟩ ⟨e, σ⟩ K = onZ (St.ev ⟨e, σ⟩ y)
    (fun n => onSome (intTy P T') fun _ => onSome (elTy P T) fun t => onSome (zeroC P t.1) fun z => onSome d fun d => onNil (St.ev ⟨e, σ⟩ x) (ask (0 < n ∧ n * t.2.2 ≤ 140737488355328 ∧ 0 < t.2.2 ∧ 0 < t.2.1) (K (St.new ⟨e, σ⟩ d (.row t.1 t.2.1 (List.replicate n.toNat (nilL (cty P t.1) z))) (.ref [d])))))
    (fun _ =>
    onSome d fun d => onSome (elTy P T') fun _ => onSome (elTy P T) fun t => onSome (zeroC P t.1) fun _ => onSome (St.sl ⟨e, σ⟩ t.2.1 (St.ev ⟨e, σ⟩ y)) fun ys => onSome (appBase ⟨e, σ⟩ d t.1 t.2.1 (St.ev ⟨e, σ⟩ x)) fun xs =>
      ask ((xs.2.length + ys.2.length) * t.2.2 ≤ 140737488355328 ∧ 0 < t.2.2)
        (onRef (St.ev ⟨e, σ⟩ y)
          (fun id' => sel (H d == 2)
            (ask (flatE ys.2 ∧ hit [id'] xs.1 = false) (K (St.put ((St.chg ⟨e, σ⟩ [xs.1] [xs.1]).obj xs.1 (.row t.1 t.2.1 (xs.2 ++ ys.2))) (some d) (.ref xs.1))))
            (ask (hit [id'] xs.1 = false) (K (St.put ((St.chg ⟨e, σ⟩ [xs.1, id'] [xs.1, id']).obj xs.1 (.row t.1 t.2.1 (xs.2 ++ ys.2))) (some d) (.ref xs.1)))))
          (fun _ => False)
          (fun _ => sel (isObj ys.1)
            (ask (flatE ys.2 ∧ killO [xs.1] ys.1 = false) (K (St.put ((St.chg ⟨e, σ⟩ [xs.1] [xs.1]).obj xs.1 (.row t.1 t.2.1 (xs.2 ++ ys.2))) (some d) (.ref xs.1))))
            (K (St.put ((St.chg ⟨e, σ⟩ [xs.1] [xs.1]).obj xs.1 (.row t.1 t.2.1 (xs.2 ++ ys.2.map (List.map (AV.asrw ys.1))))) (some d) (.ref xs.1)))))) := rfl
theorem callOp_min (d : Option Nat) (x y : Operand) (ts : Array TypeId) : callOp P H d ⟨.builtin .min, #[x, y], ts⟩ ⟨e, σ⟩ K =
    binE .lss (St.ev ⟨e, σ⟩ y) (St.ev ⟨e, σ⟩ x) fun u => match u with | .bool t => sel t (K (St.put ⟨e, σ⟩ d (St.ev ⟨e, σ⟩ y))) (K (St.put ⟨e, σ⟩ d (St.ev ⟨e, σ⟩ x))) | _ => False := rfl
theorem appBase_ref (d u sz : Nat) (id : Id) : appBase ⟨e, σ⟩ d u sz (.ref id) = match σ id with
    | some (.row e' sz' xs) => sel (e' == u && sz' == sz) (some (id, xs)) none
    | _ => none := rfl
theorem appBase_nil (s : St) (d u sz : Nat) : appBase s d u sz (.v (.slice none 0 0)) = some ([d], []) := rfl
end
attribute [go_sem ↓] onSome_lz bindO_lz ifB_lz binE_lz binT_lz nilE_lz unE_lz onBool_lz onGd_lz onInt_lz onAdr_lz onOB_lz onMp_lz onV_lz onRL_lz onZ_lz onNil_lz onRef_lz onTup_lz onFn_lz onIfc_lz onAgg_lz onBytes_lz
attribute [go_sem] onBytes'_bytes List.getElem?_cons_zero List.getElem?_cons_succ List.getElem?_nil List.map_cons List.map_nil List.length_cons List.length_nil List.drop_succ_cons List.take_succ_cons List.drop_zero List.take_zero List.drop_nil List.take_nil List.all_cons List.all_nil List.any_cons List.any_nil List.cons_beq_cons beq_self_eq_true Bool.and_true Bool.true_and Bool.and_false Bool.false_and Bool.or_false Bool.or_true Bool.false_or Bool.true_or Bool.not_true Bool.not_false List.isPrefixOf_cons₂ List.isPrefixOf_nil_left List.nil_append List.cons_append List.append_nil awp_skip awp_region awp_draw regE_nil regE_cons opsD_nil opsD_cons opsM_nil opsM_cons isY_eq selL_true selL_false isX_eq onOp_some rmD_nil rmD_cons rmD_none anys_nil anys_cons ask_assoc hBl_get consO_some opsAt_nil opsAt_cons awp_seq awp_cond awp_block awp_loop awp_exit awp_ret then_normal then_exit then_ret block_exit block_normal block_ret stripL_nil stripL_cons gOf_none gOf_some dstO_mk opsE_nil opsE_none opsE_some
  put_some put_none new_mk chg_mk obj_mk ret_some ret_none retQ_normal retQ_ret ev_tmp ev_const ev_func constAV_int constAV_bool constAV_string constAV_slice sl_rd sl_ref sl_nil rowOf_row
  opE_move opE_asg_nil opE_asg_tmp opE_asg_int opE_asg_bool opE_asg_str opE_asg_agg opE_asg_iface opE_asg_ptr opE_asg_map opE_asg_func hint_nil hint_cons opE_pick opE_bin opE_un opE_convert cvE_int cvE_bytes cvE_str opE_indexAddr ixE_sl ixE_ar opE_build fillE okCells Bld.at opE_load opE_store opE_fieldAddr opE_field opE_slice boundE_none boundE_some opE_makeSlice opE_buildSlice opE_box opE_alloc opE_makeMap opE_lookup opE_mapUpdate mapAns MapKept.IsKey onMp'_mp onV'_v opE_nilCheck opE_extract opE_call opE_makeFunc callOp_tmp
  evs_nil evs_cons callOp_func callOp_len callOp_cap callOp_append onRL'_row onRL'_mp onZ'_int onZ'_nil onZ'_str onZ'_ref onZ'_rd onNil'_nil slR_v slR_rd callOp_min appBase_ref appBase_nil
  onSome'_some bindO'_some bindO'_none ifB'_true ifB'_false ifB'_not ifB'_eqt ifB'_eqf sel_true sel_false true_and and_true Int.toNat_natCast List.headD_cons upd_get killE_get updS_get killS_get mapOB_some mapOB_none binE'_int binE'_str binT'_bool binT'_rd binT'_ref binT'_nil binT'_int binT'_str boolE nilCmp nil0 intE strE unE'_not unE'_neg unE'_xor onBool'_v onGd'_v onGd'_no onInt'_v onAdr'_rp onAdr'_ptr onOB'_row onOB'_box
  onRef'_ref onRef'_str onRef'_rd onRef'_nil onTup'_tup onIfc'_ifc callOp_invoke opE_makeInterface onFn'_fn onFn'_v onAgg'_agg ask_true withL AV.kill killL killO OB.kill hit cmp indep isObj AV.asrd asrdL AV.asrw asrwL Org.base AV.asat AV.clB clBL AV.cells nilC nilL nilA okBox oneB ownRow St.clC St.clL St.clE cut setAt partsOf coeRow St.coe St.coeL coeBox St.coeK St.coeKL St.coeA lendC lendL lendA argsE frzO frzR St.frzC St.frzL St.frzA St.frzE
  opnC opnCs opnB opnL opnA updL boxOf ptrBox retA St.clA St.clAs nilAs tupOf retE asrdA initE initS St.init
  Nat.le_refl Nat.zero_add List.length_map List.length_range List.length_replicate List.length_set ne_eq not_false_eq_true
  retM_mk retQM_normal retQM_ret rowC_row backAt PA.mus cellAt setCellAt boxTC shapeOf St.givC St.givL St.givA rootC rootL rootB St.rootA St.roots ptrs chN rrootA rroots apartB apC apL apBox St.apK St.apKL St.apA pargE bkC bkL bkA St.backs deadC deadL St.deadA St.dead initEM objsM St.initM pinOf pinV pinsE rowT St.clTC St.clTL boxT St.clT St.clTs retEM getO Option.bind_some
end Go.Ev
