/- The abstract interpreter: values without memory for what is never written again, objects for what is. -/
import Derived.Calls
import Derived.Orders
import Derived.Laws.StructEq
set_option linter.unusedVariables false
set_option linter.unusedSimpArgs false
namespace Go.Abs

inductive Loc where
  | hp (i : Nat)
  | st (i : Nat)
  deriving DecidableEq, Repr, Inhabited

inductive AV where
  | bool (b : Bool)
  | int (k : IntKind) (n : Int)
  | str (s : ByteArray)
  | nilp
  | ptr (L : Loc) (o : Nat)
  | rptr (cs : List AV) (o : Nat)
  | eptr (L : Loc) (v i o : Nat)
  | nils
  | sl (full : Bool) (sz : Nat) (es : List AV)
  | row (L : Loc) (v off len : Nat)
  | nilm
  | map (L : Loc)
  | fn (f : Fn) (first captured : List AV)
  | nilf
  | iface (t : TypeId) (v : AV)
  | nili
  | agg (cs : List AV)
  | tup (vs : List AV)
  deriving Inhabited

def AV.cells : AV → List AV
  | .agg cs => cs
  | v => [v]

inductive AObj where
  | cells (cs : List AV)
  | row (es : List AV) (sz v : Nat) (fro : Bool)
  | map (es : List (AV × AV))
  | iter (m : AV)
  | dead
  deriving Inhabited

structure AS where
  hp : List AObj
  st : List AObj
  deriving Inhabited

def AS.get (σ : AS) : Loc → Option AObj
  | .hp i => σ.hp[i]?
  | .st i => σ.st[i]?
def AS.set (σ : AS) (L : Loc) (o : AObj) : AS :=
  match L with
  | .hp i => { σ with hp := σ.hp.set i o }
  | .st i => { σ with st := σ.st.set i o }
/-- The place that the next object gets. -/
def AS.next (σ : AS) (esc : Bool) : Loc := if esc then .hp σ.hp.length else .st σ.st.length
def AS.push (σ : AS) (esc : Bool) (o : AObj) : AS := if esc then { σ with hp := σ.hp ++ [o] } else { σ with st := σ.st ++ [o] }

/-- Is no object of the stack from h on named in it (the elements of what is never written again name none)? -/
def Loc.inb (h : Nat) : Loc → Bool
  | .hp _ => true
  | .st i => decide (i < h)
mutual
def AV.inb (h : Nat) : AV → Bool
  | .ptr L _ => L.inb h
  | .eptr L _ _ _ => L.inb h
  | .row L _ _ _ => L.inb h
  | .map L => L.inb h
  | .fn _ first captured => AVs.inb h first && AVs.inb h captured
  | .iface _ v => AV.inb h v
  | .agg cs => AVs.inb h cs
  | .tup vs => AVs.inb h vs
  | _ => true
def AVs.inb (h : Nat) : List AV → Bool
  | [] => true
  | v :: vs => AV.inb h v && AVs.inb h vs
end

/-- A value of one cell. -/
def AV.one : AV → Bool
  | .agg _ | .tup _ => false
  | _ => true
/-- What may be an element of a row: so many cells, none of the stack named. -/
def okE (sz : Nat) (e : AV) : Bool := decide (e.cells.length = sz) && (e.cells.all AV.one && AVs.inb 0 e.cells)

/-- What a constant of the text is. -/
def ofCell : Value → Option AV
  | .bool b => some (.bool b)
  | .int k n => some (.int k n)
  | .string s => some (.str s)
  | .pointer none => some .nilp
  | .slice none 0 0 => some .nils
  | .map none => some .nilm
  | .nilFunc => some .nilf
  | .nilIface => some .nili
  | _ => none
def ofCells : List Value → Option (List AV)
  | [] => some []
  | v :: vs => match ofCell v, ofCells vs with
    | some a, some as => some (a :: as)
    | _, _ => none
def ofV : Value → Option AV
  | .agg cs => (ofCells cs.toList).map .agg
  | .tuple vs => if vs.size = 0 then some (.tup []) else none
  | v => ofCell v

abbrev Env := List AV
def Env.get (e : Env) (t : Nat) : AV := e.getD t (.tup [])

def ev (e : Env) : Operand → Option AV
  | .tmp t => some (e.get t)
  | .const v => ofV v
  | .func f => some (.fn (.func f) [] [])
  | .global _ => none
def evs (e : Env) : List Operand → Option (List AV)
  | [] => some []
  | x :: xs => match ev e x, evs e xs with
    | some v, some vs => some (v :: vs)
    | _, _ => none
def evps (e : Env) : List (Nat × Operand) → Option (List (Nat × AV))
  | [] => some []
  | (i, x) :: xs => match ev e x, evps e xs with
    | some v, some vs => some ((i, v) :: vs)
    | _, _ => none

section
variable (P : Program)

def sizeA (t : TypeId) : Option Nat := (P.info? t).map (·.size)
def bytesA (t : TypeId) : Option Nat := (P.info? t).map (·.bytes)
def zeroA (t : TypeId) : Option AV := ((P.info? t).bind (·.zero)).bind ofV
def isAggD : TypeDesc → Bool
  | .struct _ | .array _ _ => true
  | _ => false
def aggA (t : TypeId) : Option Bool := (P.underlying t).map isAggD
def fieldA (t : TypeId) (i : Nat) : Option Field :=
  match P.underlying t with
  | some (.struct fs) => fs[i]?
  | _ => none
def elemA (t : TypeId) : Option TypeId :=
  match P.underlying t with
  | some (.slice e) => some e
  | _ => none

/-- Cells o .. of a list, as a value of type t. -/
def partA (t : TypeId) (cs : List AV) (o : Nat) : Option AV :=
  match aggA P t with
  | some true => match sizeA P t with
    | some n => if o + n ≤ cs.length then some (.agg ((cs.drop o).take n)) else none
    | none => none
  | some false => cs[o]?
  | none => none

/-- List l with the cells xs laid from o on. -/
def lay (l : List AV) (o : Nat) (xs : List AV) : List AV := l.take o ++ xs ++ l.drop (o + xs.length)

def beqS (x y : ByteArray) : Bool := x.data.toList == y.data.toList

/-! ### Equality -/
def eqFieldsA (eq : TypeId → AV → AV → Option Bool) (xs ys : List AV) : List Field → Option Bool
  | [] => some true
  | f :: fs =>
    if f.name = "_" then eqFieldsA eq xs ys fs
    else match partA P f.type xs f.offset, partA P f.type ys f.offset with
      | some a, some b => match eq f.type a b with
        | some true => eqFieldsA eq xs ys fs
        | some false => some false
        | none => none
      | _, _ => none
def eqA : Nat → TypeId → AV → AV → Option Bool
  | 0, _, _, _ => none
  | d + 1, t, x, y =>
    match P.underlying t, x, y with
    | some .bool, .bool a, .bool b => some (a == b)
    | some (.int _), .int k a, .int k' b => if k = k' then some (a == b) else none
    | some .string, .str a, .str b => some (beqS a b)
    | some (.struct fs), .agg xs, .agg ys => if P.stoodInHeld t then none else eqFieldsA P (eqA d) xs ys fs.toList
    | some (.pointer _), .nilp, .nilp => some true
    | some (.pointer _), .nilp, .ptr _ _ => some false
    | some (.pointer _), .ptr _ _, .nilp => some false
    | some (.pointer _), .nilp, .rptr _ _ => some false
    | some (.pointer _), .rptr _ _, .nilp => some false
    | some (.pointer _), .nilp, .eptr _ _ _ _ => some false
    | some (.pointer _), .eptr _ _ _ _, .nilp => some false
    | some (.slice _), .nils, .nils => some true
    | some (.slice _), .nils, .sl _ _ _ => some false
    | some (.slice _), .sl _ _ _, .nils => some false
    | some (.slice _), .nils, .row _ _ _ _ => some false
    | some (.slice _), .row _ _ _ _, .nils => some false
    | some (.map _ _), .nilm, .nilm => some true
    | some (.map _ _), .nilm, .map _ => some false
    | some (.map _ _), .map _, .nilm => some false
    | some (.func _ _ _), .nilf, .nilf => some true
    | some (.func _ _ _), .nilf, .fn _ _ _ => some false
    | some (.func _ _ _), .fn _ _ _, .nilf => some false
    | some (.interface _), .nili, .nili => some true
    | some (.interface _), .nili, .iface _ _ => some false
    | some (.interface _), .iface _ _, .nili => some false
    | some (.interface _), .iface tx vx, .iface ty vy =>
      if tx = ty then (match (P.info? tx).map (·.comparable) with
        | some true => eqA d tx vx vy
        | _ => none)
      else some false
    | _, _, _ => none
end
end Go.Abs
