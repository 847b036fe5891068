/- The evaluator, part 2: what each operation asks and does, on shapes. -/
import Derived.Test.YtijmbcnhkdhkeaaEva
set_option linter.unusedVariables false
set_option linter.unusedSimpArgs false
namespace Go.Ev
open Go Go.RowKit

/-! ### types -/
def tySz (P : Program) (t : TypeId) : Option (Nat × Bool) :=
  match P.info? t, P.underlying t with
  | some i, some d => some (i.size, match d with | .struct _ | .array _ _ => true | _ => false)
  | _, _ => none
/-- A slice type's element type, its cells, its bytes. -/
def elTy (P : Program) (T : TypeId) : Option (Nat × Nat × Nat) :=
  match P.underlying T with
  | some (.slice e) => (P.info? e).map fun i => (e, i.size, i.bytes)
  | _ => none
/-- How a map's keys look, and its elements' type. -/
def mapTy (P : Program) (T : TypeId) : Option (TypeDesc × Nat) :=
  match P.underlying T with
  | some (.map k e) => (P.underlying k).map fun d => (d, e)
  | _ => none
def fldTy (P : Program) (S : TypeId) (j : Nat) : Option (Nat × Nat × Bool) :=
  match P.underlying S with
  | some (.struct fs) =>
    match fs[j]? with
    | some f => (tySz P f.type).map fun x => (f.offset, x.1, x.2)
    | none => none
  | _ => none
/-- The slices among a type's cells: element type and cells. -/
def ctyN (P : Program) : Nat → TypeId → List (Option (Nat × Nat))
  | 0, _ => []
  | n + 1, t =>
    match P.underlying t with
    | some (.struct fs) => fs.toList.flatMap fun f => ctyN P n f.type
    | some (.slice e) => [(P.info? e).map fun i => (e, i.size)]
    | _ => [none]
def cty (P : Program) (t : TypeId) : List (Option (Nat × Nat)) := ctyN P 6 t
def oneB : Value → Bool
  | .agg _ => false
  | .tuple _ => false
  | _ => true
def zeroC (P : Program) (t : TypeId) : Option (List AV) :=
  match P.info? t with
  | some i => match i.zero with
    | some z => if z.cells.all oneB && z.cells.size == i.size then some (z.cells.toList.map .v) else none
    | none => none
  | none => none
/-- The zero of a type of one cell. -/
def zeroV (P : Program) (t : TypeId) : Option Value :=
  match P.info? t with
  | some i => match i.zero with
    | some z => if oneB z then some z else none
    | none => none
  | none => none
/-- What is indexed by address: a slice; an array behind a pointer. -/
inductive Ix where
  | sl (t : Nat × Nat × Nat)
  | ar (n sz : Nat)
def ixTy (P : Program) (T : TypeId) : Option Ix :=
  match P.underlying T with
  | some (.slice e) => (P.info? e).map fun i => .sl (e, i.size, i.bytes)
  | some (.array n e) => (P.info? e).map fun i => .ar n i.size
  | _ => none
/-- A literal's places: offset and cells. -/
inductive Bld where
  | st (l : List (Nat × Nat))
  | ar (sz : Nat)
def Bld.at : Bld → Nat → Option (Nat × Nat)
  | .st l, i => l[i]?
  | .ar sz, i => some (i * sz, sz)
def bldTy (P : Program) (T : TypeId) : Option Bld :=
  match P.underlying T with
  | some (.struct fs) => (fs.toList.mapM fun f => (P.info? f.type).map fun i => (f.offset, i.size)).map .st
  | some (.array _ e) => (P.info? e).map fun i => .ar i.size
  | _ => none
def strTy (P : Program) (T : TypeId) : Option Unit :=
  match P.underlying T with
  | some .string => some ()
  | _ => none
/-- What a conversion makes: a whole number, a string of bytes, a string. -/
inductive Cv where
  | int (k : IntKind)
  | bytes
  | str
def cvTy (P : Program) (src dst : TypeId) : Option Cv :=
  match P.underlying src, P.underlying dst with
  | some _, some (.int k) => some (.int k)
  | some (.slice e), some .string => match P.underlying e with | some (.int .u8) => some .bytes | _ => none
  | some .string, some .string => some .str
  | _, _ => none

/-! ### names of objects -/
def cmp (p q : Id) : Bool := p.isPrefixOf q || q.isPrefixOf p
def hit (I : List Id) (id : Id) : Bool := I.any fun p => cmp p id
def indep : List Id → Bool
  | [] => true
  | i :: is => !hit is i && indep is

/-! ### eliminators (the evaluator's simp goes into what is asked alone, not into what follows) -/
def onSome {α : Type} (o : Option α) (k : α → Prop) : Prop := match o with | some a => k a | none => False
theorem onSome_some {α : Type} (a : α) (k : α → Prop) : onSome (some a) k = k a := rfl
def getO {α : Type} (o : Option α) (d : α) : α := match o with | some a => a | none => d
def bindO {α β : Type} (o : Option α) (k : α → Option β) : Option β := match o with | some a => k a | none => none
theorem bindO_some {α β : Type} (a : α) (k : α → Option β) : bindO (some a) k = k a := rfl
theorem bindO_none {α β : Type} (k : α → Option β) : bindO none k = none := rfl
/-- Both ways of a test. -/
def ifB (t : Bool) (a b : Prop) : Prop := (t = true → a) ∧ (t = false → b)
theorem ifB_true (a b : Prop) : ifB true a b = a := by simp [ifB]
theorem ifB_false (a b : Prop) : ifB false a b = b := by simp [ifB]
theorem ifB.of {p : Prop} [Decidable p] {a b : Prop} (h : p → a) (h' : ¬ p → b) : ifB (decide p) a b := ⟨fun x => h (of_decide_eq_true x), fun x => h' (of_decide_eq_false x)⟩
theorem ifB_not (t : Bool) (a b : Prop) : ifB (!t) a b = ifB t b a := by cases t <;> simp [ifB]
/-- Which of two, by a number's or name's being the same. -/
def sel {α : Type} (t : Bool) (a b : α) : α := match t with | true => a | false => b
theorem sel_true {α : Type} (a b : α) : sel true a b = a := rfl
theorem sel_false {α : Type} (a b : α) : sel false a b = b := rfl

/-! the same, with what follows held fast: simp goes into what is asked alone -/
inductive Fix.{u} {α : Sort u} (x : α) : Type where
  | mk
def onSome' {α : Type} (o : Option α) (k : α → Prop) (_ : Fix k) : Prop := onSome o k
theorem onSome_lz {α : Type} (o : Option α) (k : α → Prop) : onSome o k = onSome' o k .mk := rfl
theorem onSome'_some {α : Type} (a : α) (k : α → Prop) (h : Fix k) : onSome' (some a) k h = k a := rfl
theorem onSome'.of {α : Type} {o : Option α} {k : α → Prop} {h : Fix k} {a : α} (e : o = some a) (hk : k a) : onSome' o k h := by subst e; exact hk
def bindO' {α β : Type} (o : Option α) (k : α → Option β) (_ : Fix k) : Option β := bindO o k
theorem bindO_lz {α β : Type} (o : Option α) (k : α → Option β) : bindO o k = bindO' o k .mk := rfl
theorem bindO'_some {α β : Type} (a : α) (k : α → Option β) (h : Fix k) : bindO' (some a) k h = k a := rfl
theorem bindO'_none {α β : Type} (k : α → Option β) (h : Fix k) : bindO' none k h = none := rfl
def ifB' (t : Bool) (a b : Prop) (_ : Fix a) (_ : Fix b) : Prop := ifB t a b
theorem ifB_lz (t : Bool) (a b : Prop) : ifB t a b = ifB' t a b .mk .mk := rfl
theorem ifB'_true (a b : Prop) (h : Fix a) (h' : Fix b) : ifB' true a b h h' = a := ifB_true a b
theorem ifB'_false (a b : Prop) (h : Fix a) (h' : Fix b) : ifB' false a b h h' = b := ifB_false a b
theorem ifB'_not (t : Bool) (a b : Prop) (h : Fix a) (h' : Fix b) : ifB' (!t) a b h h' = ifB' t b a h' h := ifB_not t a b
theorem ifB'_eqt (t : Bool) (a b : Prop) (h : Fix a) (h' : Fix b) : ifB' (t == true) a b h h' = ifB' t a b h h' := by cases t <;> rfl
theorem ifB'_eqf (t : Bool) (a b : Prop) (h : Fix a) (h' : Fix b) : ifB' (t == false) a b h h' = ifB' t b a h' h := by cases t <;> simp [ifB', ifB]
theorem ifB'.of {p : Prop} [Decidable p] {a b : Prop} {h1 : Fix a} {h2 : Fix b} (h : p → a) (h' : ¬ p → b) : ifB' (decide p) a b h1 h2 := ifB.of h h'
def selL (t : Bool) (a b : Prop) (_ : Fix a) (_ : Fix b) : Prop := sel t a b
theorem selL_true (a b : Prop) (h : Fix a) (h' : Fix b) : selL true a b h h' = a := rfl
theorem selL_false (a b : Prop) (h : Fix a) (h' : Fix b) : selL false a b h h' = b := rfl
theorem ifB'.bool {t : Bool} {a b : Prop} {h1 : Fix a} {h2 : Fix b} (h : t = true → a) (h' : t = false → b) : ifB' t a b h1 h2 := ⟨h, h'⟩

/-! ### states -/
inductive OB where
  | row (e sz : Nat) (els : List (List AV))
  | box (t : Nat) (cs : List AV)
  | pin (c : AV) (x : Value)
  | mp (k : TypeDesc) (e : Nat) (l : List (Value × Value))

/-- The same key. -/
def kEq : Value → Value → Bool
  | .int _ a, .int _ b => a == b
  | .string a, .string b => a == b
  | .bool a, .bool b => a == b
  | _, _ => false
def mget : List (Value × Value) → Value → Option Value
  | [], _ => none
  | p :: l, k => sel (kEq p.1 k) (some p.2) (mget l k)
def mput : List (Value × Value) → Value → Value → List (Value × Value)
  | [], k, v => [(k, v)]
  | p :: l, k, v => sel (kEq p.1 k) ((k, v) :: l) (p :: mput l k v)
/-- What looking up yields. -/
def mapAns (c : Bool) (z : Value) (l : List (Value × Value)) (u : Value) : AV := match c with | true => .tup [.v ((mget l u).getD z), .v (.bool (mget l u).isSome)] | false => .v ((mget l u).getD z)
/-- An object that is a map. -/
def onMp (o : Option OB) (k : TypeDesc → Nat → List (Value × Value) → Prop) : Prop := match o with | some (.mp d e l) => k d e l | _ => False
def onMp' (o : Option OB) (k : TypeDesc → Nat → List (Value × Value) → Prop) (_ : Fix k) : Prop := onMp o k
theorem onMp_lz (o : Option OB) (k : TypeDesc → Nat → List (Value × Value) → Prop) : onMp o k = onMp' o k .mk := rfl
theorem onMp'_mp (d : TypeDesc) (e : Nat) (l : List (Value × Value)) (k : TypeDesc → Nat → List (Value × Value) → Prop) (h : Fix k) : onMp' (some (.mp d e l)) k h = k d e l := rfl
theorem onMp.elim {o : Option OB} {k : TypeDesc → Nat → List (Value × Value) → Prop} (h : onMp o k) : ∃ d e l, o = some (.mp d e l) ∧ k d e l := by
  unfold onMp at h
  split at h
  · exact ⟨_, _, _, rfl, h⟩
  · exact h.elim
/-- How long it is: a row of the call's own, or a map. -/
def onRL (o : Option OB) (kr : List (List AV) → Prop) (km : List (Value × Value) → Prop) : Prop := match o with | some (.row _ _ els) => kr els | some (.mp _ _ l) => km l | _ => False
def onRL' (o : Option OB) (kr : List (List AV) → Prop) (km : List (Value × Value) → Prop) (_ : Fix kr) (_ : Fix km) : Prop := onRL o kr km
theorem onRL_lz (o : Option OB) (kr : List (List AV) → Prop) (km : List (Value × Value) → Prop) : onRL o kr km = onRL' o kr km .mk .mk := rfl
theorem onRL'_row (e sz : Nat) (els : List (List AV)) (kr : List (List AV) → Prop) (km : List (Value × Value) → Prop) (h : Fix kr) (h' : Fix km) : onRL' (some (.row e sz els)) kr km h h' = kr els := rfl
theorem onRL'_mp (d : TypeDesc) (e : Nat) (l : List (Value × Value)) (kr : List (List AV) → Prop) (km : List (Value × Value) → Prop) (h : Fix kr) (h' : Fix km) : onRL' (some (.mp d e l)) kr km h h' = km l := rfl
theorem onRL.elim {o : Option OB} {kr : List (List AV) → Prop} {km : List (Value × Value) → Prop} (h : onRL o kr km) : (∃ e sz els, o = some (.row e sz els) ∧ kr els) ∨ ∃ d e l, o = some (.mp d e l) ∧ km l := by
  unfold onRL at h
  split at h
  · exact .inl ⟨_, _, _, rfl, h⟩
  · exact .inr ⟨_, _, _, rfl, h⟩
  · exact h.elim
/-- A number in the place of a slice. -/
def onZ (a : AV) (kz : Int → Prop) (k : AV → Prop) : Prop := match a with | .v (.int _ n) => kz n | a => k a
def onZ' (a : AV) (kz : Int → Prop) (k : AV → Prop) (_ : Fix kz) (_ : Fix k) : Prop := onZ a kz k
theorem onZ_lz (a : AV) (kz : Int → Prop) (k : AV → Prop) : onZ a kz k = onZ' a kz k .mk .mk := rfl
section
variable (kz : Int → Prop) (k : AV → Prop) (h : Fix kz) (h' : Fix k)
theorem onZ'_int (q : IntKind) (n : Int) : onZ' (.v (.int q n)) kz k h h' = kz n := rfl
theorem onZ'_nil : onZ' (.v (.slice none 0 0)) kz k h h' = k (.v (.slice none 0 0)) := rfl
theorem onZ'_str (b : ByteArray) : onZ' (.v (.string b)) kz k h h' = k (.v (.string b)) := rfl
theorem onZ'_ref (id : Id) : onZ' (.ref id) kz k h h' = k (.ref id) := rfl
theorem onZ'_rd (o : Org) (e sz : Nat) (els : List (List AV)) : onZ' (.rd o e sz els) kz k h h' = k (.rd o e sz els) := rfl
end
theorem onZ.elim {a : AV} {kz : Int → Prop} {k : AV → Prop} (h : onZ a kz k) : (∃ q n, a = .v (.int q n) ∧ kz n) ∨ k a := by
  unfold onZ at h
  split at h
  · exact .inl ⟨_, _, rfl, h⟩
  · exact .inr h
/-- The nil slice. -/
def onNil (a : AV) (k : Prop) : Prop := match a with | .v (.slice none 0 0) => k | _ => False
def onNil' (a : AV) (k : Prop) (_ : Fix k) : Prop := onNil a k
theorem onNil_lz (a : AV) (k : Prop) : onNil a k = onNil' a k .mk := rfl
theorem onNil'_nil (k : Prop) (h : Fix k) : onNil' (.v (.slice none 0 0)) k h = k := rfl
theorem onNil.elim {a : AV} {k : Prop} (h : onNil a k) : a = .v (.slice none 0 0) ∧ k := by
  unfold onNil at h
  split at h
  · exact ⟨rfl, h⟩
  · exact h.elim
/-- A piece of the nil slice is nil. -/
def slR (a x : AV) : AV := match a with | .v _ => .v (.slice none 0 0) | _ => x
theorem slR_v (u : Value) (x : AV) : slR (.v u) x = .v (.slice none 0 0) := rfl
theorem slR_rd (o : Org) (e sz : Nat) (els : List (List AV)) (x : AV) : slR (.rd o e sz els) x = x := rfl
/-- Is it a type of numbers? -/
def intTy (P : Program) (t : TypeId) : Option Unit := match P.underlying t with | some (.int _) => some () | _ => none
/-- A value of one cell that is known. -/
def onV (a : AV) (k : Value → Prop) : Prop := match a with | .v u => k u | _ => False
def onV' (a : AV) (k : Value → Prop) (_ : Fix k) : Prop := onV a k
theorem onV_lz (a : AV) (k : Value → Prop) : onV a k = onV' a k .mk := rfl
theorem onV'_v (u : Value) (k : Value → Prop) (h : Fix k) : onV' (.v u) k h = k u := rfl
theorem onV.elim {a : AV} {k : Value → Prop} (h : onV a k) : ∃ u, a = .v u ∧ k u := by
  unfold onV at h
  split at h
  · exact ⟨_, rfl, h⟩
  · exact h.elim
structure St where
  env : Nat → AV
  σ : Id → Option OB

def killO (J : List Id) : Org → Bool
  | .obj id => hit J id
  | .at id _ _ _ => hit J id
  | _ => false
mutual
def AV.kill (I J : List Id) : AV → AV
  | .any => .any
  | .v u => .v u
  | .row e sz els => .row e sz els
  | .rd o e sz els => sel (killO J o) .any (.rd o e sz els)
  | .rp o e sz els i k => sel (killO J o) .any (.rp o e sz els i k)
  | .ref id => sel (hit I id) .any (.ref id)
  | .ptr id sz i k => sel (hit I id) .any (.ptr id sz i k)
  | .agg cs => .agg (killL I J cs)
  | .tup cs => .tup (killL I J cs)
  | .bx t cs => .bx t cs
  | .ifc t a => .ifc t (a.kill I J)
  | .fn f cs => .fn f (killL I J cs)
def killL (I J : List Id) : List AV → List AV
  | [] => []
  | c :: cs => c.kill I J :: killL I J cs
end
def OB.kill (I J : List Id) : OB → OB
  | .row e sz els => .row e sz els
  | .box t cs => .box t (killL I J cs)
  | .pin c x => .pin (c.kill I J) x
  | .mp k e l => .mp k e l

/-! environments and stores -/
def upd (f : Nat → AV) (d : Nat) (x : AV) : Nat → AV := fun k => sel (k == d) x (f k)
def killE (f : Nat → AV) (I J : List Id) : Nat → AV := fun k => (f k).kill I J
def updS (f : Id → Option OB) (id : Id) (ob : OB) : Id → Option OB := fun x => sel (x == id) (some ob) (f x)
def mapOB (I J : List Id) (o : Option OB) : Option OB := match o with | some ob => some (ob.kill I J) | none => none
def killS (f : Id → Option OB) (I J : List Id) : Id → Option OB := fun x => sel (hit J x) none (mapOB I J (f x))
theorem upd_get (f : Nat → AV) (d : Nat) (x : AV) (k : Nat) : upd f d x k = sel (k == d) x (f k) := rfl
theorem killE_get (f : Nat → AV) (I J : List Id) (k : Nat) : killE f I J k = (f k).kill I J := rfl
theorem updS_get (f : Id → Option OB) (id : Id) (ob : OB) (x : Id) : updS f id ob x = sel (x == id) (some ob) (f x) := rfl
theorem killS_get (f : Id → Option OB) (I J : List Id) (x : Id) : killS f I J x = sel (hit J x) none (mapOB I J (f x)) := rfl
theorem mapOB_some (I J : List Id) (ob : OB) : mapOB I J (some ob) = some (ob.kill I J) := rfl
theorem mapOB_none (I J : List Id) : mapOB I J none = none := rfl

/-- Objects that J names are gone; so is what leads to those of I; what was read of those of J is no longer known. -/
def St.chg (s : St) (I J : List Id) : St := ⟨killE s.env I J, killS s.σ I J⟩
def St.obj (s : St) (id : Id) (ob : OB) : St := ⟨s.env, updS s.σ id ob⟩
def St.put (s : St) (d : Option Nat) (a : AV) : St :=
  match d with
  | some d => ⟨upd s.env d a, s.σ⟩
  | none => s
def St.new (s : St) (d : Nat) (ob : OB) (a : AV) : St := ((s.chg [[d]] [[d]]).obj [d] ob).put (some d) a

def constAV : Value → AV
  | .agg cs => if cs.all oneB then .agg (cs.toList.map .v) else .any
  | .tuple _ => .any
  | u => .v u
def St.ev (s : St) : Operand → AV
  | .tmp t => s.env t
  | .const v => constAV v
  | .global _ => .any
  | .func f => .v (.func (.func f) #[] #[])

def rowOf (sz : Nat) (r : Org) : Option OB → Option (Org × List (List AV))
  | some (.row _ sz' els) => sel (sz' == sz) (some (r, els)) none
  | _ => none
def nilV : Value → Option (Org × List (List AV))
  | .slice none 0 0 => some (.ent, [])
  | _ => none
/-- What a slice of elements of sz cells shows. -/
def St.sl (s : St) (sz : Nat) : AV → Option (Org × List (List AV))
  | .rd o _ sz' els => sel (sz' == sz) (some (o, els)) none
  | .ref id => rowOf sz (.obj id) (s.σ id)
  | .v u => nilV u
  | _ => none

def Org.base : Org → Org
  | .at id _ _ _ => .obj id
  | .ent => .ent
  | .frz => .frz
  | .obj id => .obj id
mutual
def AV.asrd (o : Org) : AV → AV
  | .row e sz els => .rd o.base e sz els
  | .bx t cs => .rp o t cs.length [cs] 0 0
  | .ifc t a => .ifc t (a.asrd o)
  | .fn f cs => .fn f (asrdL o cs)
  | .agg cs => .agg (asrdL o cs)
  | .tup cs => .tup (asrdL o cs)
  | .any => .any
  | .v u => .v u
  | .rd o e sz els => .rd o e sz els
  | .rp o e sz els i k => .rp o e sz els i k
  | .ref id => .ref id
  | .ptr id sz i k => .ptr id sz i k
def asrdL (o : Org) : List AV → List AV
  | [] => []
  | c :: cs => c.asrd o :: asrdL o cs
end
mutual
/-- The same, for a cell that goes into a row. -/
def AV.asrw (o : Org) : AV → AV
  | .row e sz els => .rd o.base e sz els
  | .bx _ _ => .any
  | .ifc t a => .ifc t (a.asrw o)
  | .fn f cs => .fn f (asrwL o cs)
  | .agg cs => .agg (asrwL o cs)
  | .tup cs => .tup (asrwL o cs)
  | .any => .any
  | .v u => .v u
  | .rd o e sz els => .rd o e sz els
  | .rp o e sz els i k => .rp o e sz els i k
  | .ref id => .ref id
  | .ptr id sz i k => .ptr id sz i k
def asrwL (o : Org) : List AV → List AV
  | [] => []
  | c :: cs => c.asrw o :: asrwL o cs
end
/-- A cell loaded out of a row of the call's own: where it stands is known. -/
def AV.asat (id : Id) (sz0 i k : Nat) : AV → AV
  | .row e sz els => .rd (.at id sz0 i k) e sz els
  | x => x.asrd (.obj id)
def AV.cells : AV → List AV
  | .agg cs => cs
  | x => [x]
/-- A nil slice in a row is an empty row. -/
def nilC : Option (Nat × Nat) → AV → AV
  | some (e, sz), .v (.slice none 0 0) => .row e sz []
  | _, a => a
def nilL : List (Option (Nat × Nat)) → List AV → List AV
  | c :: cs, a :: as => nilC c a :: nilL cs as
  | _, as => as
def nilA (cs : List (Option (Nat × Nat))) : AV → AV
  | .agg as => .agg (nilL cs as)
  | .any => .any
  | .tup as => .tup as
  | a => nilC (cs.headD none) a
/-- May it lie in a variable? -/
def okBox : AV → Bool
  | .v u => oneB u
  | .rd .. | .rp .. | .ref _ | .ptr .. | .ifc .. | .fn .. => true
  | _ => false
mutual
/-- Nothing of the call's own is in it. -/
def AV.clB : AV → Bool
  | .v u => oneB u
  | .rd o _ _ _ => !isObj o
  | .agg cs => clBL cs
  | .ifc _ a => a.clB
  | .fn _ cs => clBL cs
  | _ => false
def clBL : List AV → Bool
  | [] => true
  | c :: cs => c.clB && clBL cs
end
def ownRow (id : Id) : Option OB → Option (AV × List Id)
  | some (.row e sz els) => some (.row e sz els, [id])
  | _ => none
/-- A cell handed into a row or out of the function: rows of the call's own go along. -/
def St.clC (s : St) : AV → Option (AV × List Id)
  | .v u => sel (oneB u) (some (.v u, [])) none
  | .rd o e sz els => sel (isObj o) none (some (.rd o e sz els, []))
  | .ref id => ownRow id (s.σ id)
  | .ifc t a => sel a.clB (some (.ifc t a, [])) none
  | .fn f cs => sel (clBL cs) (some (.fn f cs, [])) none
  | _ => none
def St.clL (s : St) : List AV → Option (List AV × List Id)
  | [] => some ([], [])
  | c :: cs => bindO (s.clC c) fun x => bindO (s.clL cs) fun y => some (x.1 :: y.1, x.2 ++ y.2)

/-- Cells k to k + n of an element, as a value. -/
def cut (agg : Bool) (n k : Nat) (cs : List AV) (f : AV → AV) : Option AV :=
  sel agg (sel (Nat.ble (k + n) cs.length) (some (.agg (((cs.drop k).take n).map f))) none) ((cs[k]?).map f)
def setAt : List AV → Nat → List AV → List AV
  | [], _, cs => cs
  | v :: vs, k, cs => setAt vs (k + 1) (cs.set k v)

/-! ### what an operation asks -/
/-- Asked first. -/
def ask (p q : Prop) : Prop := p ∧ q
theorem ask_true (q : Prop) : ask True q = q := by simp [ask]
theorem ask.of {p q : Prop} (h : p) (h' : q) : ask p q := ⟨h, h'⟩
def intE (op : BinOp) (k : IntKind) (x : Int) (k' : IntKind) (y : Int) (K : Value → Prop) : Prop :=
  match op with
  | .add => k = k' ∧ K (.int k (k.wrap (x + y)))
  | .sub => k = k' ∧ K (.int k (k.wrap (x - y)))
  | .mul => k = k' ∧ K (.int k (k.wrap (x * y)))
  | .quo => k = k' ∧ ask (y ≠ 0) (K (.int k (k.wrap (x.tdiv y))))
  | .rem => k = k' ∧ ask (y ≠ 0) (K (.int k (x.tmod y)))
  | .and => k = k' ∧ K (.int k (k.wrap (BitVec.ofInt k.bits x &&& BitVec.ofInt k.bits y).toNat))
  | .or => k = k' ∧ K (.int k (k.wrap (BitVec.ofInt k.bits x ||| BitVec.ofInt k.bits y).toNat))
  | .xor => k = k' ∧ K (.int k (k.wrap (BitVec.ofInt k.bits x ^^^ BitVec.ofInt k.bits y).toNat))
  | .andNot => k = k' ∧ K (.int k (k.wrap (BitVec.ofInt k.bits x &&& ~~~ BitVec.ofInt k.bits y).toNat))
  | .shl => ask (0 ≤ y) <| K (.int k (k.wrap (x * 2 ^ (min y.toNat k.bits))))
  | .shr => ask (0 ≤ y) <| K (.int k (x.fdiv (2 ^ (min y.toNat k.bits))))
  | .eql => k = k' ∧ K (.bool (decide (x = y)))
  | .neq => k = k' ∧ K (.bool (!decide (x = y)))
  | .lss => k = k' ∧ K (.bool (decide (x < y)))
  | .leq => k = k' ∧ K (.bool (decide (x ≤ y)))
  | .gtr => k = k' ∧ K (.bool (decide (y < x)))
  | .geq => k = k' ∧ K (.bool (decide (y ≤ x)))
def strE (op : BinOp) (a b : ByteArray) (K : Value → Prop) : Prop :=
  match op with
  | .eql => K (.bool (decide (a = b)))
  | .neq => K (.bool (!decide (a = b)))
  | _ => False
def binE (op : BinOp) (a b : AV) (K : Value → Prop) : Prop :=
  match a, b with
  | .v (.int k x), .v (.int k' y) => intE op k x k' y K
  | .v (.string a), .v (.string b) => strE op a b K
  | _, _ => False
theorem binE_int (op : BinOp) (k k' : IntKind) (x y : Int) (K : Value → Prop) : binE op (.v (.int k x)) (.v (.int k' y)) K = intE op k x k' y K := rfl
theorem binE_str (op : BinOp) (a b : ByteArray) (K : Value → Prop) : binE op (.v (.string a)) (.v (.string b)) K = strE op a b K := rfl
def unE (op : UnOp) (a : AV) (K : Value → Prop) : Prop :=
  match op, a with
  | .not, .v (.bool b) => K (.bool !b)
  | .neg, .v (.int k x) => K (.int k (k.wrap (0 - x)))
  | .xor, .v (.int k x) => K (.int k (k.wrap (BitVec.ofInt k.bits (if k.signed then -1 else k.max) ^^^ BitVec.ofInt k.bits x).toNat))
  | _, _ => False
theorem unE_not (b : Bool) (K : Value → Prop) : unE .not (.v (.bool b)) K = K (.bool !b) := rfl
theorem unE_neg (k : IntKind) (x : Int) (K : Value → Prop) : unE .neg (.v (.int k x)) K = K (.int k (k.wrap (0 - x))) := rfl
theorem unE_xor (k : IntKind) (x : Int) (K : Value → Prop) : unE .xor (.v (.int k x)) K = K (.int k (k.wrap (BitVec.ofInt k.bits (if k.signed then -1 else k.max) ^^^ BitVec.ofInt k.bits x).toNat)) := rfl
def onBool (a : AV) (k : Bool → Prop) : Prop := match a with | .v (.bool b) => k b | _ => False
/-- A guard's word: a Bool; or nothing, where the guard was skipped itself. -/
def onGd (a : AV) (k : Bool → Prop) (k' : Prop) : Prop := match a with | .v (.bool b) => k b | .tup [] => k' | _ => False
def onGd' (a : AV) (k : Bool → Prop) (k' : Prop) (_ : Fix k) (_ : Fix k') : Prop := onGd a k k'
theorem onGd_lz (a : AV) (k : Bool → Prop) (k' : Prop) : onGd a k k' = onGd' a k k' .mk .mk := rfl
theorem onGd'_v (b : Bool) (k : Bool → Prop) (k' : Prop) (h : Fix k) (h' : Fix k') : onGd' (.v (.bool b)) k k' h h' = k b := rfl
theorem onGd'_no (k : Bool → Prop) (k' : Prop) (h : Fix k) (h' : Fix k') : onGd' (.tup []) k k' h h' = k' := rfl
theorem onBool_v (b : Bool) (k : Bool → Prop) : onBool (.v (.bool b)) k = k b := rfl
def onInt (a : AV) (k : Int → Prop) : Prop := match a with | .v (.int _ n) => k n | _ => False
theorem onInt_v (q : IntKind) (n : Int) (k : Int → Prop) : onInt (.v (.int q n)) k = k n := rfl
/-- An address: into what is read; into an object. -/
def onAdr (a : AV) (kr : Org → Nat → Nat → List (List AV) → Nat → Nat → Prop) (kp : Id → Nat → Nat → Nat → Prop) : Prop :=
  match a with
  | .rp o e sz els i k => kr o e sz els i k
  | .ptr id sz i k => kp id sz i k
  | _ => False
theorem onAdr_rp (o : Org) (e sz : Nat) (els : List (List AV)) (i k : Nat) (kr : Org → Nat → Nat → List (List AV) → Nat → Nat → Prop) (kp : Id → Nat → Nat → Nat → Prop) : onAdr (.rp o e sz els i k) kr kp = kr o e sz els i k := rfl
theorem onAdr_ptr (id : Id) (sz i k : Nat) (kr : Org → Nat → Nat → List (List AV) → Nat → Nat → Prop) (kp : Id → Nat → Nat → Nat → Prop) : onAdr (.ptr id sz i k) kr kp = kp id sz i k := rfl
def onOB (o : Option OB) (kr : Nat → Nat → List (List AV) → Prop) (kb : Nat → List AV → Prop) : Prop :=
  match o with
  | some (.row e sz els) => kr e sz els
  | some (.box t cs) => kb t cs
  | _ => False
theorem onOB_row (e sz : Nat) (els : List (List AV)) (kr : Nat → Nat → List (List AV) → Prop) (kb : Nat → List AV → Prop) : onOB (some (.row e sz els)) kr kb = kr e sz els := rfl
theorem onOB_box (t : Nat) (cs : List AV) (kr : Nat → Nat → List (List AV) → Prop) (kb : Nat → List AV → Prop) : onOB (some (.box t cs)) kr kb = kb t cs := rfl
/-- A slice that is an object of the call's own, or is read; a string. -/
def onRef (a : AV) (kref : Id → Prop) (kstr : ByteArray → Prop) (k : AV → Prop) : Prop :=
  match a with
  | .ref id => kref id
  | .v (.string b) => kstr b
  | a => k a
theorem onRef_ref (id : Id) (kref : Id → Prop) (kstr : ByteArray → Prop) (k : AV → Prop) : onRef (.ref id) kref kstr k = kref id := rfl
theorem onRef_str (b : ByteArray) (kref : Id → Prop) (kstr : ByteArray → Prop) (k : AV → Prop) : onRef (.v (.string b)) kref kstr k = kstr b := rfl
theorem onRef_rd (o : Org) (e sz : Nat) (els : List (List AV)) (kref : Id → Prop) (kstr : ByteArray → Prop) (k : AV → Prop) : onRef (.rd o e sz els) kref kstr k = k (.rd o e sz els) := rfl
theorem onRef_nil (kref : Id → Prop) (kstr : ByteArray → Prop) (k : AV → Prop) : onRef (.v (.slice none 0 0)) kref kstr k = k (.v (.slice none 0 0)) := rfl
def onFn (a : AV) (k : Nat → List AV → Prop) : Prop := match a with | .fn f cs => k f cs | .v (.func (.func f) ⟨[]⟩ ⟨[]⟩) => k f [] | _ => False
/-- A value of an interface's type. -/
def onIfc (a : AV) (k : Nat → AV → Prop) : Prop := match a with | .ifc t x => k t x | _ => False
def onIfc' (a : AV) (k : Nat → AV → Prop) (_ : Fix k) : Prop := onIfc a k
theorem onIfc_lz (a : AV) (k : Nat → AV → Prop) : onIfc a k = onIfc' a k .mk := rfl
theorem onIfc'_ifc (t : Nat) (x : AV) (k : Nat → AV → Prop) (h : Fix k) : onIfc' (.ifc t x) k h = k t x := rfl
theorem onIfc.elim {a : AV} {k : Nat → AV → Prop} (h : onIfc a k) : ∃ t x, a = .ifc t x ∧ k t x := by
  unfold onIfc at h
  split at h
  · exact ⟨_, _, rfl, h⟩
  · exact h.elim
/-- The function behind a method's name, where it is the type's own and takes a value. -/
def methF (P : Program) (t : TypeId) (nm : String) : Option Nat :=
  match P.info? t, P.underlying t with
  | some i, some d => match i.methods.find? (fun m => m.name == nm), d with
    | some _, .pointer _ => none
    | some ⟨_, _, ⟨[]⟩, some (f, false)⟩, _ => some f
    | _, _ => none
  | _, _ => none
/-- Is it a type whose values an interface may hold? -/
def ifcTy (P : Program) (t : TypeId) : Option Unit := match P.underlying t with | some (.interface _) => none | some _ => some () | none => none
def onTup (a : AV) (k : List AV → Prop) : Prop := match a with | .tup cs => k cs | _ => False
theorem onTup_tup (cs : List AV) (k : List AV → Prop) : onTup (.tup cs) k = k cs := rfl
def onAgg (a : AV) (k : List AV → Prop) : Prop := match a with | .agg cs => k cs | _ => False
theorem onAgg_agg (cs : List AV) (k : List AV → Prop) : onAgg (.agg cs) k = k cs := rfl
/-- With a list worked out first. -/
def withL {α : Type} (x : α) (k : α → Prop) : Prop := k x

def byteC (b : UInt8) : List AV := [.v (.int .u8 b.toNat)]
def bytesA (bs : List UInt8) : List (List AV) := bs.map byteC

theorem bytesA_inj {a b : List UInt8} (h : bytesA a = bytesA b) : a = b := by
  induction a generalizing b with
  | nil => cases b <;> simp_all [bytesA]
  | cons x xs ih =>
    cases b with
    | nil => simp [bytesA] at h
    | cons y ys =>
      simp only [bytesA, List.map_cons, List.cons.injEq] at h
      obtain ⟨h1, h2⟩ := h
      have : x = y := by simp only [byteC, List.cons.injEq, AV.v.injEq, Value.int.injEq, Int.natCast_inj] at h1; exact UInt8.toNat_inj.1 h1.1.2
      rw [this, ih h2]
def onBytes (els : List (List AV)) (k : List UInt8 → Prop) : Prop := ∃ bs, els = bytesA bs ∧ k bs
theorem onBytes_bytes (bs : List UInt8) (k : List UInt8 → Prop) : onBytes (bytesA bs) k = k bs :=
  propext ⟨fun ⟨_, h, hk⟩ => bytesA_inj h ▸ hk, fun hk => ⟨bs, rfl, hk⟩⟩

/-! held fast, as above -/
def binE' (op : BinOp) (a b : AV) (K : Value → Prop) (_ : Fix K) : Prop := binE op a b K
theorem binE_lz (op : BinOp) (a b : AV) (K : Value → Prop) : binE op a b K = binE' op a b K .mk := rfl
theorem binE'_int (op : BinOp) (k k' : IntKind) (x y : Int) (K : Value → Prop) (h : Fix K) : binE' op (.v (.int k x)) (.v (.int k' y)) K h = intE op k x k' y K := rfl
theorem binE'_str (op : BinOp) (a b : ByteArray) (K : Value → Prop) (h : Fix K) : binE' op (.v (.string a)) (.v (.string b)) K h = strE op a b K := rfl
def unE' (op : UnOp) (a : AV) (K : Value → Prop) (_ : Fix K) : Prop := unE op a K
theorem unE_lz (op : UnOp) (a : AV) (K : Value → Prop) : unE op a K = unE' op a K .mk := rfl
theorem unE'_not (b : Bool) (K : Value → Prop) (h : Fix K) : unE' .not (.v (.bool b)) K h = K (.bool !b) := rfl
theorem unE'_neg (k : IntKind) (x : Int) (K : Value → Prop) (h : Fix K) : unE' .neg (.v (.int k x)) K h = K (.int k (k.wrap (0 - x))) := rfl
theorem unE'_xor (k : IntKind) (x : Int) (K : Value → Prop) (h : Fix K) : unE' .xor (.v (.int k x)) K h = K (.int k (k.wrap (BitVec.ofInt k.bits (if k.signed then -1 else k.max) ^^^ BitVec.ofInt k.bits x).toNat)) := rfl
def onBool' (a : AV) (k : Bool → Prop) (_ : Fix k) : Prop := onBool a k
theorem onBool_lz (a : AV) (k : Bool → Prop) : onBool a k = onBool' a k .mk := rfl
theorem onBool'_v (b : Bool) (k : Bool → Prop) (h : Fix k) : onBool' (.v (.bool b)) k h = k b := rfl
def onInt' (a : AV) (k : Int → Prop) (_ : Fix k) : Prop := onInt a k
theorem onInt_lz (a : AV) (k : Int → Prop) : onInt a k = onInt' a k .mk := rfl
theorem onInt'_v (q : IntKind) (n : Int) (k : Int → Prop) (h : Fix k) : onInt' (.v (.int q n)) k h = k n := rfl
def onAdr' (a : AV) (kr : Org → Nat → Nat → List (List AV) → Nat → Nat → Prop) (kp : Id → Nat → Nat → Nat → Prop) (_ : Fix kr) (_ : Fix kp) : Prop := onAdr a kr kp
theorem onAdr_lz (a : AV) (kr : Org → Nat → Nat → List (List AV) → Nat → Nat → Prop) (kp : Id → Nat → Nat → Nat → Prop) : onAdr a kr kp = onAdr' a kr kp .mk .mk := rfl
theorem onAdr'_rp (o : Org) (e sz : Nat) (els : List (List AV)) (i k : Nat) (kr : Org → Nat → Nat → List (List AV) → Nat → Nat → Prop) (kp : Id → Nat → Nat → Nat → Prop) (h : Fix kr) (h' : Fix kp) : onAdr' (.rp o e sz els i k) kr kp h h' = kr o e sz els i k := rfl
theorem onAdr'_ptr (id : Id) (sz i k : Nat) (kr : Org → Nat → Nat → List (List AV) → Nat → Nat → Prop) (kp : Id → Nat → Nat → Nat → Prop) (h : Fix kr) (h' : Fix kp) : onAdr' (.ptr id sz i k) kr kp h h' = kp id sz i k := rfl
def onOB' (o : Option OB) (kr : Nat → Nat → List (List AV) → Prop) (kb : Nat → List AV → Prop) (_ : Fix kr) (_ : Fix kb) : Prop := onOB o kr kb
theorem onOB_lz (o : Option OB) (kr : Nat → Nat → List (List AV) → Prop) (kb : Nat → List AV → Prop) : onOB o kr kb = onOB' o kr kb .mk .mk := rfl
theorem onOB'_row (e sz : Nat) (els : List (List AV)) (kr : Nat → Nat → List (List AV) → Prop) (kb : Nat → List AV → Prop) (h : Fix kr) (h' : Fix kb) : onOB' (some (.row e sz els)) kr kb h h' = kr e sz els := rfl
theorem onOB'_box (t : Nat) (cs : List AV) (kr : Nat → Nat → List (List AV) → Prop) (kb : Nat → List AV → Prop) (h : Fix kr) (h' : Fix kb) : onOB' (some (.box t cs)) kr kb h h' = kb t cs := rfl
def onRef' (a : AV) (kref : Id → Prop) (kstr : ByteArray → Prop) (k : AV → Prop) (_ : Fix kref) (_ : Fix kstr) (_ : Fix k) : Prop := onRef a kref kstr k
theorem onRef_lz (a : AV) (kref : Id → Prop) (kstr : ByteArray → Prop) (k : AV → Prop) : onRef a kref kstr k = onRef' a kref kstr k .mk .mk .mk := rfl
section
variable (kref : Id → Prop) (kstr : ByteArray → Prop) (k : AV → Prop) (h : Fix kref) (h' : Fix kstr) (h'' : Fix k)
theorem onRef'_ref (id : Id) : onRef' (.ref id) kref kstr k h h' h'' = kref id := rfl
theorem onRef'_str (b : ByteArray) : onRef' (.v (.string b)) kref kstr k h h' h'' = kstr b := rfl
theorem onRef'_rd (o : Org) (e sz : Nat) (els : List (List AV)) : onRef' (.rd o e sz els) kref kstr k h h' h'' = k (.rd o e sz els) := rfl
theorem onRef'_nil : onRef' (.v (.slice none 0 0)) kref kstr k h h' h'' = k (.v (.slice none 0 0)) := rfl
end
def onFn' (a : AV) (k : Nat → List AV → Prop) (_ : Fix k) : Prop := onFn a k
theorem onFn_lz (a : AV) (k : Nat → List AV → Prop) : onFn a k = onFn' a k .mk := rfl
theorem onFn'_fn (f : Nat) (cs : List AV) (k : Nat → List AV → Prop) (h : Fix k) : onFn' (.fn f cs) k h = k f cs := rfl
theorem onFn'_v (f : Nat) (k : Nat → List AV → Prop) (h : Fix k) : onFn' (.v (.func (.func f) #[] #[])) k h = k f [] := rfl
def onTup' (a : AV) (k : List AV → Prop) (_ : Fix k) : Prop := onTup a k
theorem onTup_lz (a : AV) (k : List AV → Prop) : onTup a k = onTup' a k .mk := rfl
theorem onTup'_tup (cs : List AV) (k : List AV → Prop) (h : Fix k) : onTup' (.tup cs) k h = k cs := rfl
def onAgg' (a : AV) (k : List AV → Prop) (_ : Fix k) : Prop := onAgg a k
theorem onAgg_lz (a : AV) (k : List AV → Prop) : onAgg a k = onAgg' a k .mk := rfl
theorem onAgg'_agg (cs : List AV) (k : List AV → Prop) (h : Fix k) : onAgg' (.agg cs) k h = k cs := rfl
def onBytes' (els : List (List AV)) (k : List UInt8 → Prop) (_ : Fix k) : Prop := onBytes els k
theorem onBytes_lz (els : List (List AV)) (k : List UInt8 → Prop) : onBytes els k = onBytes' els k .mk := rfl
theorem onBytes'_bytes (bs : List UInt8) (k : List UInt8 → Prop) (h : Fix k) : onBytes' (bytesA bs) k h = k bs := onBytes_bytes bs k

def boolTy (P : Program) (T : TypeId) : Option Unit :=
  match P.underlying T with
  | some .bool => some ()
  | _ => none
def boolE (op : BinOp) (a b : Bool) (K : Value → Prop) : Prop :=
  match op with
  | .eql => K (.bool (decide (a = b)))
  | .neq => K (.bool (!decide (a = b)))
  | _ => False
/-- A slice may be nil if it shows nothing. -/
def nilE (els : List (List AV)) (A B : Prop) : Prop := (els = [] → A) ∧ B
def nilE' (els : List (List AV)) (A B : Prop) (_ : Fix A) (_ : Fix B) : Prop := nilE els A B
theorem nilE_lz (els : List (List AV)) (A B : Prop) : nilE els A B = nilE' els A B .mk .mk := rfl
theorem nilE'.of {els : List (List AV)} {A B : Prop} {h1 : Fix A} {h2 : Fix B} (h : els = [] → A) (h' : B) : nilE' els A B h1 h2 := ⟨h, h'⟩
def nilCmp (op : BinOp) (els : List (List AV)) (K : Value → Prop) : Prop :=
  match op with
  | .eql => nilE els (K (.bool true)) (K (.bool false))
  | .neq => nilE els (K (.bool false)) (K (.bool true))
  | _ => False
def nil0 (op : BinOp) (K : Value → Prop) : Prop :=
  match op with
  | .eql => K (.bool true)
  | .neq => K (.bool false)
  | _ => False
def binT (P : Program) (t : TypeId) (σ : Id → Option OB) (op : BinOp) (a b : AV) (K : Value → Prop) : Prop :=
  match a, b with
  | .v (.bool x), .v (.bool y) => onSome (boolTy P t) fun _ => boolE op x y K
  | .rd _ _ _ els, .v (.slice none 0 0) => onSome (elTy P t) fun _ => nilCmp op els K
  | .ref id, .v (.slice none 0 0) => onSome (elTy P t) fun _ => onOB (σ id) (fun _ _ els => nilCmp op els K) (fun _ _ => False)
  | .v (.slice none 0 0), .v (.slice none 0 0) => onSome (elTy P t) fun _ => nil0 op K
  | a, b => binE op a b K
def binT' (P : Program) (t : TypeId) (σ : Id → Option OB) (op : BinOp) (a b : AV) (K : Value → Prop) (_ : Fix K) : Prop := binT P t σ op a b K
section
variable (P : Program) (t : TypeId) (σ : Id → Option OB) (op : BinOp) (K : Value → Prop) (h : Fix K)
theorem binT_lz (a b : AV) : binT P t σ op a b K = binT' P t σ op a b K .mk := rfl
theorem binT'_bool (x y : Bool) : binT' P t σ op (.v (.bool x)) (.v (.bool y)) K h = onSome (boolTy P t) fun _ => boolE op x y K := rfl
theorem binT'_rd (o : Org) (e sz : Nat) (els : List (List AV)) : binT' P t σ op (.rd o e sz els) (.v (.slice none 0 0)) K h = onSome (elTy P t) fun _ => nilCmp op els K := rfl
theorem binT'_ref (id : Id) : binT' P t σ op (.ref id) (.v (.slice none 0 0)) K h = onSome (elTy P t) fun _ => onOB (σ id) (fun _ _ els => nilCmp op els K) (fun _ _ => False) := rfl
theorem binT'_nil : binT' P t σ op (.v (.slice none 0 0)) (.v (.slice none 0 0)) K h = onSome (elTy P t) fun _ => nil0 op K := rfl
theorem binT'_int (k k' : IntKind) (x y : Int) : binT' P t σ op (.v (.int k x)) (.v (.int k' y)) K h = intE op k x k' y K := rfl
theorem binT'_str (a b : ByteArray) : binT' P t σ op (.v (.string a)) (.v (.string b)) K h = strE op a b K := rfl
end

def okCells (vc : List AV) (n : Nat) : Bool := vc.length == n && vc.all okBox
/-- A literal's cells, part by part. -/
def fillE (s : St) (b : Bld) : List AV → List (Nat × Operand) → Option (List AV)
  | cs, [] => some cs
  | cs, x :: l => bindO (b.at x.1) fun pl => sel (okCells (s.ev x.2).cells pl.2 && Nat.ble (pl.1 + pl.2) cs.length) (fillE s b (setAt (s.ev x.2).cells pl.1 cs) l) none
def partsOf (s : St) : Nat → List (Nat × Operand) → Option (List (List AV))
  | _, [] => some []
  | i, x :: l => sel (x.1 == i) (bindO (partsOf s (i + 1) l) fun r => some ((s.ev x.2).cells :: r)) none
/-- Elements handed into a new row: their cells' types, the elements; what goes along. -/
def St.clE (s : St) (n : Nat) (ty : List (Option (Nat × Nat))) : List (List AV) → Option (List (List AV) × List Id)
  | [] => some ([], [])
  | e :: es => sel (e.length == n) (bindO (s.clL e) fun x => bindO (s.clE n ty es) fun y => some (nilL ty x.1 :: y.1, x.2 ++ y.2)) none
/-- Elements that hold plain values alone. -/
def flatE (els : List (List AV)) : Prop := ∀ e ∈ els, ∀ c ∈ e, ∃ u, c = .v u

end Go.Ev
