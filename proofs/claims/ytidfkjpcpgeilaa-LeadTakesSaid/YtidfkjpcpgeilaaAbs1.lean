/- Part 1 of the abstract interpreter: its operations and what they say of a world, for any program and any world. -/
import Derived.Calls
import Derived.Orders
import Derived.Laws.StructEq
import Derived.StillTail
set_option linter.unusedVariables false
set_option linter.unusedSimpArgs false
section
namespace Go.Abs
inductive Loc where
  | hp (i : Nat)
  | st (i : Nat)
  deriving DecidableEq, Repr, Inhabited
inductive AV where
  | bool (b : Bool)
  | int (k : IntKind) (n : Int)
  | str (s : ByteArray)
  | nilp
  | ptr (L : Loc) (o : Nat)
  | rptr (cs : List AV) (o : Nat)
  | eptr (L : Loc) (v i o : Nat)
  | nils
  | sl (full : Bool) (sz : Nat) (es : List AV)
  | row (L : Loc) (v off len : Nat)
  | nilm
  | map (L : Loc)
  | fn (f : Fn) (first captured : List AV)
  | nilf
  | iface (t : TypeId) (v : AV)
  | nili
  | agg (cs : List AV)
  | tup (vs : List AV)
  | any
  deriving Inhabited
def AV.cells : AV → List AV
  | .agg cs => cs
  | v => [v]
inductive AObj where
  | cells (cs : List AV)
  | row (es : List AV) (sz v : Nat) (fro : Bool)
  | map (es : List (AV × AV))
  | iter (m : AV)
  | dead
  deriving Inhabited
structure AS where
  hp : List AObj
  st : List AObj
  deriving Inhabited
def AS.get (σ : AS) : Loc → Option AObj
  | .hp i => σ.hp[i]?
  | .st i => σ.st[i]?
def AS.set (σ : AS) (L : Loc) (o : AObj) : AS :=
  match L with
  | .hp i => { σ with hp := σ.hp.set i o }
  | .st i => { σ with st := σ.st.set i o }
def AS.next (σ : AS) (esc : Bool) : Loc := if esc then .hp σ.hp.length else .st σ.st.length
def AS.push (σ : AS) (esc : Bool) (o : AObj) : AS := if esc then { σ with hp := σ.hp ++ [o] } else { σ with st := σ.st ++ [o] }
def Loc.inb (h : Nat) : Loc → Bool
  | .hp _ => true
  | .st i => decide (i < h)
mutual
def AV.inb (h : Nat) : AV → Bool
  | .ptr L _ => L.inb h
  | .eptr L _ _ _ => L.inb h
  | .row L _ _ _ => L.inb h
  | .map L => L.inb h
  | .fn _ first captured => AVs.inb h first && AVs.inb h captured
  | .iface _ v => AV.inb h v
  | .agg cs => AVs.inb h cs
  | .tup vs => AVs.inb h vs
  | _ => true
def AVs.inb (h : Nat) : List AV → Bool
  | [] => true
  | v :: vs => AV.inb h v && AVs.inb h vs
end
def AV.one : AV → Bool
  | .agg _ | .tup _ => false
  | _ => true
def okE (sz : Nat) (e : AV) : Bool := decide (e.cells.length = sz) && (e.cells.all AV.one && AVs.inb 0 e.cells)
def ofCell : Value → Option AV
  | .bool b => some (.bool b)
  | .int k n => some (.int k n)
  | .string s => some (.str s)
  | .pointer none => some .nilp
  | .slice none 0 0 => some .nils
  | .map none => some .nilm
  | .nilFunc => some .nilf
  | .nilIface => some .nili
  | _ => none
def ofCells : List Value → Option (List AV)
  | [] => some []
  | v :: vs => match ofCell v, ofCells vs with
    | some a, some as => some (a :: as)
    | _, _ => none
def ofV : Value → Option AV
  | .agg cs => (ofCells cs.toList).map .agg
  | .tuple vs => if vs.size = 0 then some (.tup []) else none
  | v => ofCell v
abbrev Env := List AV
def Env.get (e : Env) (t : Nat) : AV := e.getD t (.tup [])
def ev (e : Env) : Operand → Option AV
  | .tmp t => some (e.get t)
  | .const v => ofV v
  | .func f => some (.fn (.func f) [] [])
  | .global _ => none
def evs (e : Env) : List Operand → Option (List AV)
  | [] => some []
  | x :: xs => match ev e x, evs e xs with
    | some v, some vs => some (v :: vs)
    | _, _ => none
def evps (e : Env) : List (Nat × Operand) → Option (List (Nat × AV))
  | [] => some []
  | (i, x) :: xs => match ev e x, evps e xs with
    | some v, some vs => some ((i, v) :: vs)
    | _, _ => none
section
variable (P : Program)
def sizeA (t : TypeId) : Option Nat := (P.info? t).map (·.size)
def bytesA (t : TypeId) : Option Nat := (P.info? t).map (·.bytes)
def zeroA (t : TypeId) : Option AV := ((P.info? t).bind (·.zero)).bind ofV
def isAggD : TypeDesc → Bool
  | .struct _ | .array _ _ => true
  | _ => false
def aggA (t : TypeId) : Option Bool := (P.underlying t).map isAggD
def fieldA (t : TypeId) (i : Nat) : Option Field :=
  match P.underlying t with
  | some (.struct fs) => fs[i]?
  | _ => none
def elemA (t : TypeId) : Option TypeId :=
  match P.underlying t with
  | some (.slice e) => some e
  | _ => none
def partA (t : TypeId) (cs : List AV) (o : Nat) : Option AV :=
  match aggA P t with
  | some true => match sizeA P t with
    | some n => if o + n ≤ cs.length then some (.agg ((cs.drop o).take n)) else none
    | none => none
  | some false => cs[o]?
  | none => none
def lay (l : List AV) (o : Nat) (xs : List AV) : List AV := l.take o ++ xs ++ l.drop (o + xs.length)
def beqS (x y : ByteArray) : Bool := x.data.toList == y.data.toList
def eqFieldsA (eq : TypeId → AV → AV → Option Bool) (xs ys : List AV) : List Field → Option Bool
  | [] => some true
  | f :: fs =>
    if f.name = "_" then eqFieldsA eq xs ys fs
    else match partA P f.type xs f.offset, partA P f.type ys f.offset with
      | some a, some b => match eq f.type a b with
        | some true => eqFieldsA eq xs ys fs
        | some false => some false
        | none => none
      | _, _ => none
def eqA : Nat → TypeId → AV → AV → Option Bool
  | 0, _, _, _ => none
  | d + 1, t, x, y =>
    match P.underlying t, x, y with
    | some .bool, .bool a, .bool b => some (a == b)
    | some (.int _), .int k a, .int k' b => if k = k' then some (a == b) else none
    | some .string, .str a, .str b => some (beqS a b)
    | some (.struct fs), .agg xs, .agg ys => if P.stoodInHeld t then none else eqFieldsA P (eqA d) xs ys fs.toList
    | some (.pointer _), .nilp, .nilp => some true
    | some (.pointer _), .nilp, .ptr _ _ => some false
    | some (.pointer _), .ptr _ _, .nilp => some false
    | some (.pointer _), .nilp, .rptr _ _ => some false
    | some (.pointer _), .rptr _ _, .nilp => some false
    | some (.pointer _), .nilp, .eptr _ _ _ _ => some false
    | some (.pointer _), .eptr _ _ _ _, .nilp => some false
    | some (.slice _), .nils, .nils => some true
    | some (.slice _), .nils, .sl _ _ _ => some false
    | some (.slice _), .sl _ _ _, .nils => some false
    | some (.slice _), .nils, .row _ _ _ _ => some false
    | some (.slice _), .row _ _ _ _, .nils => some false
    | some (.map _ _), .nilm, .nilm => some true
    | some (.map _ _), .nilm, .map _ => some false
    | some (.map _ _), .map _, .nilm => some false
    | some (.func _ _ _), .nilf, .nilf => some true
    | some (.func _ _ _), .nilf, .fn _ _ _ => some false
    | some (.func _ _ _), .fn _ _ _, .nilf => some false
    | some (.interface _), .nili, .nili => some true
    | some (.interface _), .nili, .iface _ _ => some false
    | some (.interface _), .iface _ _, .nili => some false
    | some (.interface _), .iface tx vx, .iface ty vy =>
      if tx = ty then (match (P.info? tx).map (·.comparable) with
        | some true => eqA d tx vx vy
        | _ => none)
      else some false
    | _, _, _ => none
end
end Go.Abs
end
section
namespace Go.Abs
structure Cx where
  h : Nat
  ro : Option Nat
  esc : List Nat
def wok (ro : Option Nat) : Loc → Bool
  | .hp _ => ro.isNone
  | .st i => match ro with
    | none => true
    | some k => decide (k ≤ i)
def promL (ro : Option Nat) : AS → List AV → Option (List AV × AS)
  | σ, [] => some ([], σ)
  | σ, .row (.st i) v off len :: xs =>
    match σ.st[i]? with
    | some (.row es sz v' false) =>
      if v' = v ∧ wok ro (.st i) = true then
        match promL ro { hp := σ.hp ++ [.row es sz v false], st := σ.st.set i .dead } xs with
        | some (ys, σ') => some (.row (.hp σ.hp.length) v off len :: ys, σ')
        | none => none
      else none
    | _ => none
  | σ, x :: xs => match promL ro σ xs with
    | some (ys, σ') => some (x :: ys, σ')
    | none => none
def fzL (ro : Option Nat) : AS → List AV → Option (List AV × AS)
  | σ, [] => some ([], σ)
  | σ, .row L v off len :: xs =>
    match σ.get L with
    | some (.row es sz v' _) =>
      if v' = v ∧ wok ro L = true ∧ off + len ≤ es.length then
        match fzL ro (σ.set L (.row es sz v' true)) xs with
        | some (ys, σ') => some (.sl false sz ((es.drop off).take len) :: ys, σ')
        | none => none
      else none
    | _ => none
  | σ, x :: xs => match fzL ro σ xs with
    | some (ys, σ') => some (x :: ys, σ')
    | none => none
mutual
def AV.back (h : Nat) (σ : AS) : AV → Option AV
  | .row (.st i) v off len =>
    if i < h then some (.row (.st i) v off len)
    else match σ.st[i]? with
    | some (.row es sz v' _) => if v' = v ∧ off + len ≤ es.length then some (.sl false sz ((es.drop off).take len)) else none
    | _ => none
  | .agg cs => match AVs.back h σ cs with
    | some cs' => some (.agg cs')
    | none => none
  | .tup cs => match AVs.back h σ cs with
    | some cs' => some (.tup cs')
    | none => none
  | v => some v
def AVs.back (h : Nat) (σ : AS) : List AV → Option (List AV)
  | [] => some []
  | x :: xs => match AV.back h σ x, AVs.back h σ xs with
    | some y, some ys => some (y :: ys)
    | _, _ => none
end
def AV.withCells (x : AV) (cs : List AV) : Option AV :=
  match x, cs with
  | .agg _, cs => some (.agg cs)
  | _, [c] => if c.one = true then some c else none
  | _, _ => none
section
variable (P : Program) (cx : Cx)
def pushA (σ : AS) (esc : Bool) (cs : List AV) : Option (AV × AS) :=
  if esc = true then
    if cx.ro.isNone = true then
      match promL cx.ro σ cs with
      | some (cs', σ') => if AVs.inb 0 cs' = true then some (.ptr (σ'.next true) 0, σ'.push true (.cells cs')) else none
      | none => none
    else none
  else some (.ptr (σ.next false) 0, σ.push false (.cells cs))
def loadA (σ : AS) (t : TypeId) : AV → Option AV
  | .ptr L o => match σ.get L with
    | some (.cells cs) => partA P t cs o
    | _ => none
  | .rptr cs o => partA P t cs o
  | .eptr L v i o => match σ.get L with
    | some (.row es _ v' _) => if v' = v then (match es[i]? with
      | some e => partA P t e.cells o
      | none => none) else none
    | _ => none
  | _ => none
def storeA (σ : AS) (t : TypeId) (p x : AV) : Option AS :=
  if sizeA P t = some x.cells.length ∧ x.cells.all AV.one = true then
    match p with
    | .ptr L o => match σ.get L with
      | some (.cells cs) =>
        if wok cx.ro L = true ∧ o + x.cells.length ≤ cs.length then
          match L with
          | .hp i => match promL cx.ro σ x.cells with
            | some (xs, σ') => if AVs.inb 0 xs = true then some (σ'.set (.hp i) (.cells (lay cs o xs))) else none
            | none => none
          | .st i => if (decide (cx.h ≤ i) || AVs.inb i x.cells) = true then some (σ.set (.st i) (.cells (lay cs o x.cells))) else none
        else none
      | _ => none
    | .eptr L v i o => match fzL cx.ro σ x.cells with
      | some (xs, σ') => match σ'.get L with
        | some (.row es sz v' false) =>
          if v' = v ∧ wok cx.ro L = true then
            match es[i]? with
            | some e => if o + xs.length ≤ e.cells.length then
                (match e.withCells (lay e.cells o xs) with
                | some e' => if okE sz e' = true then some (σ'.set L (.row (es.set i e') sz v' false)) else none
                | none => none)
              else none
            | none => none
          else none
        | _ => none
      | none => none
    | _ => none
  else none
def placesA : List Field → Option (List (Nat × Nat))
  | [] => some []
  | f :: fs => match sizeA P f.type, placesA fs with
    | some n, some ps => some ((f.offset, n) :: ps)
    | _, _ => none
def fillA (place : Nat → Option (Nat × Nat)) : List (Nat × AV) → List AV → Option (List AV)
  | [], cs => some cs
  | (i, v) :: ps, cs => match place i with
    | some (off, n) => if v.cells.length = n ∧ off + n ≤ cs.length then fillA place ps (lay cs off v.cells) else none
    | none => none
def buildA (t : TypeId) (parts : List (Nat × AV)) : Option AV :=
  match zeroA P t, P.underlying t with
  | some z, some (.struct fs) => match placesA P fs.toList with
    | some pl => (fillA (fun i => pl[i]?) parts z.cells).map .agg
    | none => none
  | some z, some (.array _ e) => match sizeA P e with
    | some n => (fillA (fun i => some (i * n, n)) parts z.cells).map .agg
    | none => none
  | _, _ => none
def rowParts (ro : Option Nat) (sz : Nat) : List (Nat × AV) → List AV → AS → Option (List AV × AS)
  | [], es, σ => some (es, σ)
  | (i, v) :: ps, es, σ =>
    if i < es.length then
      match fzL ro σ v.cells with
      | some (cs, σ') => (match v.withCells cs with
        | some v' => if okE sz v' = true then rowParts ro sz ps (es.set i v') σ' else none
        | none => none)
      | none => none
    else none
def buildSliceA (σ : AS) (t : TypeId) (n : Nat) (parts : List (Nat × AV)) : Option (AV × AS) :=
  match elemA P t with
  | some e => match zeroA P e, sizeA P e with
    | some z, some sz =>
      if 0 < sz ∧ n * sz ≤ 2 ^ 24 ∧ okE sz z = true then
        match rowParts cx.ro sz parts (List.replicate n z) σ with
        | some (es, σ') => some (.row (σ'.next false) 0 0 n, σ'.push false (.row es sz 0 false))
        | none => none
      else none
    | _, _ => none
  | none => none
def elemsA (σ : AS) (sz : Nat) : AV → Option (List AV)
  | .nils => some []
  | .sl _ sz' es => if sz' = sz then some es else none
  | .row L v off len => match σ.get L with
    | some (.row es sz' v' _) => if v' = v ∧ sz' = sz ∧ off + len ≤ es.length then some ((es.drop off).take len) else none
    | _ => none
  | .str s => if sz = 1 then some (s.data.toList.map fun b => .int .u8 b.toNat) else none
  | _ => none
def bytesOk (n b : Nat) : Bool := decide (n * b ≤ 2 ^ 44 ∧ n ≤ 2 ^ 44 ∧ b ≤ 2 ^ 30)
def isSrc : TypeDesc → Bool
  | .slice _ | .string => true
  | _ => false
def appendA (σ : AS) (argTypes : List TypeId) (s x : AV) : Option (AV × AS) :=
  match argTypes with
  | [st, xt] => match elemA P st, P.underlying xt with
    | some e, some xd => match sizeA P e, bytesA P e with
      | some sz, some b =>
        if 0 < sz ∧ isSrc xd = true ∧ (zeroA P e).map (·.cells.length) = some sz then
          match elemsA σ sz x with
          | none => none
          | some xs => match s with
          | .nils => if xs.isEmpty = true then some (.nils, σ)
            else if bytesOk xs.length b = true then some (.row (σ.next false) 0 0 xs.length, σ.push false (.row xs sz 0 false)) else none
          | .sl full sz' es => if xs.isEmpty = true then some (.sl full sz' es, σ)
            else if full = true ∧ sz' = sz ∧ bytesOk (es.length + xs.length) b = true then
              some (.row (σ.next false) 0 0 (es.length + xs.length), σ.push false (.row (es ++ xs) sz 0 false)) else none
          | .row L v off len => match σ.get L with
            | some (.row es sz' v' false) =>
              if v' = v ∧ sz' = sz ∧ wok cx.ro L = true ∧ off + len ≤ es.length then
                if off + len + xs.length ≤ es.length then some (.row L v off (len + xs.length), σ.set L (.row (lay es (off + len) xs) sz v false))
                else if off = 0 ∧ len = es.length ∧ bytesOk (es.length + xs.length) b = true then
                  some (.row L (v + 1) 0 (len + xs.length), σ.set L (.row (es ++ xs) sz (v + 1) false))
                else none
              else none
            | _ => none
          | _ => none
        else none
      | _, _ => none
    | _, _ => none
  | _ => none
def appendZA (σ : AS) (argTypes : List TypeId) (s x : AV) : Option (AV × AS) :=
  match argTypes with
  | [st, xt] => match s, x with
    | .nils, .int .i64 n => match elemA P st, P.underlying xt with
      | some e, some (.int _) => match sizeA P e, bytesA P e, zeroA P e with
        | some sz, some b, some z =>
          if 0 < sz ∧ okE sz z = true ∧ 0 < n ∧ bytesOk n.toNat b = true then
            some (.row (σ.next false) 0 0 n.toNat, σ.push false (.row (List.replicate n.toNat z) sz 0 false)) else none
        | _, _, _ => none
      | _, _ => none
    | _, _ => none
  | _ => none
def copyA (σ : AS) (d x : AV) : Option (AV × AS) :=
  match d with
  | .nils => some (.int .i64 0, σ)
  | .row L v off len => match σ.get L with
    | some (.row es sz v' false) => match elemsA σ sz x with
      | some xs =>
        if v' = v ∧ wok cx.ro L = true ∧ off + len ≤ es.length then
          some (.int .i64 (min xs.length len : Nat), σ.set L (.row (lay es off (xs.take len)) sz v false))
        else none
      | none => none
    | _ => none
  | _ => none
def clearA (σ : AS) (t : TypeId) (x : AV) : Option AS :=
  match elemA P t, x with
  | some e, .row L v off len => match σ.get L, zeroA P e with
    | some (.row es sz v' false), some z =>
      if v' = v ∧ sizeA P e = some sz ∧ okE sz z = true ∧ wok cx.ro L = true ∧ off + len ≤ es.length then
        some (σ.set L (.row (lay es off (List.replicate len z)) sz v false))
      else none
    | _, _ => none
  | some _, .nils => some σ
  | _, _ => none
def isKey : TypeDesc → Bool
  | .int _ | .string | .bool => true
  | _ => false
def keyEq : AV → AV → Option Bool
  | .int k a, .int k' b => if k = k' then some (a == b) else none
  | .str a, .str b => some (beqS a b)
  | .bool a, .bool b => some (a == b)
  | _, _ => none
def findA (k : AV) : List (AV × AV) → Option (Option AV)
  | [] => some none
  | e :: es => match keyEq k e.1 with
    | some true => some (some e.2)
    | some false => findA k es
    | none => none
def putA (k v : AV) : List (AV × AV) → Option (List (AV × AV))
  | [] => some [(k, v)]
  | e :: es => match keyEq k e.1 with
    | some true => some ((k, v) :: es)
    | some false => match putA k v es with
      | some es' => some (e :: es')
      | none => none
    | none => none
def dropA (k : AV) : List (AV × AV) → Option (List (AV × AV))
  | [] => some []
  | e :: es => match keyEq k e.1 with
    | some true => some es
    | some false => match dropA k es with
      | some es' => some (e :: es')
      | none => none
    | none => none
def keyFits : TypeDesc → AV → Bool
  | .int k, .int k' _ => decide (k = k')
  | .string, .str _ => true
  | .bool, .bool _ => true
  | _, _ => false
def lookupA (σ : AS) (t : TypeId) (m k : AV) (ok : Bool) : Option AV :=
  match P.underlying t with
  | some (.map kt et) => match P.underlying kt, zeroA P et with
    | some kd, some z =>
      if keyFits kd k = true then
        match m with
        | .nilm => some (if ok then .tup [z, .bool false] else z)
        | .map L => match σ.get L with
          | some (.map es) => match findA k es with
            | some (some v) => some (if ok then .tup [v, .bool true] else v)
            | some none => some (if ok then .tup [z, .bool false] else z)
            | none => none
          | _ => none
        | _ => none
      else none
    | _, _ => none
  | _ => none
def ckA : Nat → TypeId → AV → Bool
  | 0, _, _ => false
  | n + 1, t, v => match P.underlying t with
    | some (.struct fs) => (match v with
      | .agg cs => fs.toList.all fun f => match partA P f.type cs f.offset with
        | some x => ckA n f.type x
        | none => false
      | _ => false)
    | some (.interface _) | some (.array _ _) | none => false
    | some _ => true
def lookupEA (σ : AS) (t : TypeId) (m k : AV) (ok : Bool) : Option AV :=
  match P.underlying t with
  | some (.map kt et) => match zeroA P et with
    | some z => if ckA P 20 kt k = true then
        match m with
        | .nilm => some (if ok then .tup [z, .bool false] else z)
        | .map L => match σ.get L with
          | some (.map []) => some (if ok then .tup [z, .bool false] else z)
          | _ => none
        | _ => none
      else none
    | none => none
  | _ => none
def mapUpdateA (σ : AS) (t : TypeId) (m k v : AV) : Option AS :=
  match P.underlying t with
  | some (.map kt _) => match P.underlying kt with
    | some kd =>
      if keyFits kd k = true then
        match fzL cx.ro σ v.cells with
        | some (cs, σ') => match v.withCells cs, m with
          | some v', .map L => match σ'.get L with
            | some (.map es) => if wok cx.ro L = true ∧ v'.inb 0 = true then (match putA k v' es with
              | some es' => some (σ'.set L (.map es'))
              | none => none) else none
            | _ => none
          | _, _ => none
        | none => none
      else none
    | none => none
  | _ => none
def deleteA (σ : AS) (t : TypeId) (m k : AV) : Option AS :=
  match P.underlying t with
  | some (.map kt _) => match P.underlying kt with
    | some kd =>
      if keyFits kd k = true then
        match m with
        | .nilm => some σ
        | .map L => match σ.get L with
          | some (.map es) => if wok cx.ro L = true then (match dropA k es with
              | some es' => some (σ.set L (.map es'))
              | none => none) else none
          | _ => none
        | _ => none
      else none
    | none => none
  | _ => none
def lenA (σ : AS) (t : TypeId) (x : AV) : Option Nat :=
  match P.underlying t, x with
  | some .string, .str s => some s.size
  | some (.array n _), _ => some n
  | some (.slice _), .nils => some 0
  | some (.slice _), .sl _ _ es => some es.length
  | some (.slice _), .row _ _ _ len => some len
  | some (.map _ _), .nilm => some 0
  | some (.map _ _), .map L => match σ.get L with
    | some (.map es) => some es.length
    | _ => none
  | _, _ => none
def capA (t : TypeId) (x : AV) : Option Nat :=
  match P.underlying t, x with
  | some (.array n _), _ => some n
  | some (.slice _), .nils => some 0
  | some (.slice _), .sl true _ es => some es.length
  | _, _ => none
def makeSliceA (σ : AS) (t : TypeId) (l c : AV) : Option (AV × AS) :=
  match elemA P t, l, c with
  | some e, .int .i64 n, .int .i64 m => match zeroA P e, sizeA P e, bytesA P e with
    | some z, some sz, some b =>
      if 0 < sz ∧ okE sz z = true ∧ 0 ≤ n ∧ n ≤ m ∧ m * b ≤ 2 ^ 44 ∧ m ≤ 2 ^ 44 then
        some (.row (σ.next false) 0 0 n.toNat, σ.push false (.row (List.replicate n.toNat z) sz 0 false))
      else none
    | _, _, _ => none
  | _, _, _ => none
def intOf? : Option AV → Option (Option Int)
  | none => some none
  | some (.int _ n) => some (some n)
  | some _ => none
def boundsA (len cap : Nat) (lo hi mx : Option Int) : Option (Nat × Nat × Nat) :=
  match (match mx with
    | some m => if 0 ≤ m ∧ m ≤ cap then some m.toNat else none
    | none => some cap) with
  | some m => match (match hi with
      | some h => if 0 ≤ h ∧ h ≤ m then some h.toNat else none
      | none => if mx.isSome = true then none else some len) with
    | some h => match lo with
      | some l => if 0 ≤ l ∧ l ≤ h then some (l.toNat, h, m) else none
      | none => some (0, h, m)
    | none => none
  | none => none
def sliceA (σ : AS) (t : TypeId) (x : AV) (lo hi mx : Option AV) : Option AV :=
  match intOf? lo, intOf? hi, intOf? mx with
  | some lo, some hi, some mx => match P.underlying t, x with
    | some .string, .str s => if mx.isSome = true then none else match boundsA s.size s.size lo hi none with
      | some (l, h, _) => some (.str (s.extract l h))
      | none => none
    | some (.slice e), .nils => if (sizeA P e).isSome = true then (match boundsA 0 0 lo hi mx with
      | some _ => some .nils
      | none => none) else none
    | some (.slice e), .sl full sz es => if sizeA P e = some sz then match boundsA es.length es.length lo hi mx with
      | some (l, h, m) => some (.sl ((decide (h = m)) && (mx.isSome || full)) sz ((es.drop l).take (h - l)))
      | none => none
      else none
    | some (.slice e), .row L v off len => match σ.get L with
      | some (.row es sz v' _) =>
        if v' = v ∧ off + len ≤ es.length ∧ sizeA P e = some sz then
          match boundsA len (es.length - off) lo hi mx with
          | some (l, h, m) =>
            if mx.isNone = true then some (.row L v (off + l) (h - l))
            else if l = h ∧ h = m then some (.sl true sz []) else some .any
          | none => none
        else none
      | _ => none
    | _, _ => none
  | _, _, _ => none
def indexAddrA (σ : AS) (t : TypeId) (x i : AV) : Option AV :=
  match i with
  | .int _ i =>
    if 0 ≤ i then
      match P.underlying t, x with
      | some (.array n e), .ptr L o => match sizeA P e with
        | some sz => if i < n then some (.ptr L (o + i.toNat * sz)) else none
        | none => none
      | some (.array n e), .rptr cs o => match sizeA P e with
        | some sz => if i < n then some (.rptr cs (o + i.toNat * sz)) else none
        | none => none
      | some (.slice e), .sl _ sz' es => match sizeA P e, es[i.toNat]? with
        | some sz, some c => if sz' = sz ∧ 0 < sz then some (.rptr c.cells 0) else none
        | _, _ => none
      | some (.slice e), .row L v off len => match sizeA P e, σ.get L with
        | some sz, some (.row es sz' v' _) => if v' = v ∧ sz' = sz ∧ i < len ∧ off + len ≤ es.length then some (.eptr L v (off + i.toNat) 0) else none
        | _, _ => none
      | _, _ => none
    else none
  | _ => none
def indexA (t : TypeId) (x i : AV) : Option AV :=
  match i with
  | .int _ i =>
    if 0 ≤ i then
      match P.underlying t, x with
      | some (.array n e), .agg cs => match sizeA P e with
        | some sz => if i < n then partA P e cs (i.toNat * sz) else none
        | none => none
      | some .string, .str s => match s.data.toList[i.toNat]? with
        | some b => some (.int .u8 b.toNat)
        | none => none
      | _, _ => none
    else none
  | _ => none
def fieldAddrA (s : TypeId) (x : AV) (i : Nat) : Option AV :=
  match fieldA P s i with
  | some f => match sizeA P f.type with
    | some (_ + 1) => match x with
      | .ptr L o => some (.ptr L (o + f.offset))
      | .rptr cs o => some (.rptr cs (o + f.offset))
      | .eptr L v i o => some (.eptr L v i (o + f.offset))
      | _ => none
    | _ => none
  | none => none
end
end Go.Abs
end
section
namespace Go.Abs
def loK : IntKind → Int
  | .i8 => -128
  | .i16 => -32768
  | .i32 => -2147483648
  | .i64 => -9223372036854775808
  | _ => 0
def hiK : IntKind → Int
  | .i8 => 127
  | .i16 => 32767
  | .i32 => 2147483647
  | .i64 => 9223372036854775807
  | .u8 => 255
  | .u16 => 65535
  | .u32 => 4294967295
  | .u64 => 18446744073709551615
def wr (k : IntKind) (n : Int) : Int := if decide (loK k ≤ n) && decide (n ≤ hiK k) then n else k.wrap n
def intBinA (op : BinOp) (k : IntKind) (a b : Int) : Option AV :=
  match op with
  | .add => some (.int k (wr k (a + b)))
  | .sub => some (.int k (wr k (a - b)))
  | .mul => some (.int k (wr k (a * b)))
  | .quo => if b = 0 then none else some (.int k (wr k (a.tdiv b)))
  | .rem => if b = 0 then none else some (.int k (a.tmod b))
  | .and => some (.int k (wr k (BitVec.ofInt k.bits a &&& BitVec.ofInt k.bits b).toNat))
  | .or => some (.int k (wr k (BitVec.ofInt k.bits a ||| BitVec.ofInt k.bits b).toNat))
  | .xor => some (.int k (wr k (BitVec.ofInt k.bits a ^^^ BitVec.ofInt k.bits b).toNat))
  | .andNot => some (.int k (wr k (BitVec.ofInt k.bits a &&& ~~~ BitVec.ofInt k.bits b).toNat))
  | .eql => some (.bool (a == b))
  | .neq => some (.bool (a != b))
  | .lss => some (.bool (decide (a < b)))
  | .leq => some (.bool (decide (a ≤ b)))
  | .gtr => some (.bool (decide (a > b)))
  | .geq => some (.bool (decide (a ≥ b)))
  | _ => none
def shiftA (op : BinOp) (k : IntKind) (a b : Int) : Option AV :=
  if b < 0 then none
  else match op with
    | .shl => some (.int k (wr k (a * 2 ^ (min b.toNat k.bits))))
    | .shr => some (.int k (a.fdiv (2 ^ (min b.toNat k.bits))))
    | _ => none
def ltS (x y : ByteArray) : Bool := Op.bytesLess x.data.toList y.data.toList
def strBinA (op : BinOp) (x y : ByteArray) : Option AV :=
  match op with
  | .add => if x.size + y.size ≤ 9223372036854775807 then some (.str (x ++ y)) else none
  | .eql => some (.bool (beqS x y))
  | .neq => some (.bool (!beqS x y))
  | .lss => some (.bool (ltS x y))
  | .leq => some (.bool (ltS x y || beqS x y))
  | .gtr => some (.bool (!(ltS x y || beqS x y)))
  | .geq => some (.bool (!ltS x y))
  | _ => none
def isConst : Operand → Bool
  | .const _ => true
  | _ => false
section
variable (P : Program)
def guardOk (t : TypeId) (x y : Operand) (a b : AV) : Bool :=
  match a, b with
  | .nili, .nili => isConst x || isConst y
  | .agg _, .agg _ => !P.eqGuardType P.depth t
  | _, _ => true
def binA (op : BinOp) (t : TypeId) (x y : Operand) (a b : AV) : Option AV :=
  match a, b with
  | .int k m, .int k' n =>
    if (op == .shl || op == .shr) = true then shiftA op k m n
    else if k = k' then intBinA op k m n else none
  | .str m, .str n => strBinA op m n
  | a, b =>
    match op with
    | .eql => if guardOk P t x y a b = true then (eqA P 40 t a b).map .bool else none
    | .neq => if guardOk P t x y a b = true then (eqA P 40 t a b).map fun r => .bool (!r) else none
    | _ => none
def unA (op : UnOp) (x : AV) : Option AV :=
  match op, x with
  | .neg, .int k n => some (.int k (wr k (0 - n)))
  | .xor, .int k n => some (.int k (wr k (BitVec.ofInt k.bits (if k.signed then -1 else k.max) ^^^ BitVec.ofInt k.bits n).toNat))
  | .not, .bool b => some (.bool !b)
  | _, _ => none
def bytesOf? : List AV → Option (List UInt8)
  | [] => some []
  | .int .u8 n :: xs => (bytesOf? xs).map (UInt8.ofNat n.toNat :: ·)
  | _ => none
def convA (σ : AS) (src dst : TypeId) (x : AV) : Option AV :=
  match P.underlying src, P.underlying dst, x with
  | some _, some (.int k), .int _ n => some (.int k (wr k n))
  | some _, some .string, .int _ n => some (.str (Utf8.encode n))
  | some _, some .string, .str s => some (.str s)
  | some (.slice e), some .string, x => match P.underlying e with
    | some (.int .u8) => match elemsA σ 1 x with
      | some es => (bytesOf? es).map fun l => .str ⟨l.toArray⟩
      | none => none
    | _ => none
  | _, _, _ => none
def fieldValA (t : TypeId) (x : AV) (i : Nat) : Option AV :=
  match fieldA P t i, x with
  | some f, .agg cs => partA P f.type cs f.offset
  | _, _ => none
def assertA (x : AV) (asserted : TypeId) (ok : Bool) : Option AV :=
  match P.underlying asserted with
  | some (.interface _) => none
  | some _ => match x with
    | .iface t v => if t = asserted then some (if ok then .tup [v, .bool true] else v)
      else if ok = true then (match zeroA P asserted with
        | some z => some (.tup [z, .bool false])
        | none => none) else none
    | .nili => if ok = true then (match zeroA P asserted with
        | some z => some (.tup [z, .bool false])
        | none => none) else none
    | _ => none
  | none => none
def mmStep (mx : Bool) (k : IntKind) : Option Int → AV → Option Int
  | some a, .int k' b => if k' = k then some (if mx then (if b > a then b else a) else (if b < a then b else a)) else none
  | _, _ => none
def minMaxA (mx : Bool) : List AV → Option AV
  | .int k a :: xs => (xs.foldl (mmStep mx k) (some a)).map (.int k)
  | _ => none
def nilCheckA : AV → Option AV
  | .ptr L o => some (.ptr L o)
  | .rptr cs o => some (.rptr cs o)
  | .eptr L v i o => some (.eptr L v i o)
  | .fn (.func f) a b => some (.fn (.func f) a b)
  | _ => none
def valA (σ : AS) (env : Env) (o : Oper) : Option AV :=
  match o.op with
  | .move x | .assign x => ev env x
  | .pick c a b => match ev env c with
    | some (.bool true) => ev env a
    | some (.bool false) => ev env b
    | _ => none
  | .build t parts => match evps env parts.toList with
    | some ps => buildA P t ps
    | none => none
  | .load t a => match ev env a with
    | some a => loadA P σ t a
    | none => none
  | .nilCheck x => match ev env x with
    | some x => nilCheckA x
    | none => none
  | .binOp op t x y _ => match ev env x, ev env y with
    | some a, some b => binA P op t x y a b
    | _, _ => none
  | .unOp op _ x => match ev env x with
    | some a => unA op a
    | none => none
  | .convert src dst x => match ev env x with
    | some a => convA P σ src dst a
    | none => none
  | .makeInterface t x => match ev env x, P.underlying t with
    | some _, some (.interface _) => none
    | some a, some _ => some (.iface t a)
    | _, _ => none
  | .makeFunc fn first captured => match evs env first.toList, evs env captured.toList with
    | some a, some b => some (.fn fn a b)
    | _, _ => none
  | .slice t x lo hi mx => match ev env x with
    | some a => sliceA P σ t a (lo.bind (ev env)) (hi.bind (ev env)) (mx.bind (ev env))
    | none => none
  | .fieldAddr s x i => match ev env x with
    | some a => fieldAddrA P s a i
    | none => none
  | .field t x i => match ev env x with
    | some a => fieldValA P t a i
    | none => none
  | .indexAddr t x i => match ev env x, ev env i with
    | some a, some i => indexAddrA P σ t a i
    | _, _ => none
  | .index t x i => match ev env x, ev env i with
    | some a, some i => indexA P t a i
    | _, _ => none
  | .lookup t m k ok => match ev env m, ev env k with
    | some m, some k => (match lookupA P σ t m k ok with
      | some c => some c
      | none => lookupEA P σ t m k ok)
    | _, _ => none
  | .extract t i => match ev env t with
    | some (.tup vs) => vs[i]?
    | _ => none
  | .typeAssert x _ asserted ok => match ev env x with
    | some a => assertA P a asserted ok
    | none => none
  | .call { callee := .builtin b, args, argTypes } => match evs env args.toList with
    | some as => match b, as, argTypes.toList with
      | .len, [x], [t] => (lenA P σ t x).map fun (n : Nat) => AV.int .i64 (n : Int)
      | .cap, [x], [t] => (capA P t x).map fun (n : Nat) => AV.int .i64 (n : Int)
      | .min, as, _ => minMaxA false as
      | .max, as, _ => minMaxA true as
      | _, _, _ => none
    | none => none
  | _ => none
def isVal (o : Oper) : Bool :=
  match o.op with
  | .move _ | .assign _ | .pick .. | .build .. | .load .. | .nilCheck _ | .binOp .. | .unOp .. | .makeInterface .. | .makeFunc .. | .slice .. | .fieldAddr ..
  | .field .. | .indexAddr .. | .index .. | .lookup .. | .extract .. | .typeAssert .. => true
  | .convert _ dst _ => (match P.underlying dst with | some (.slice _) => false | _ => true)
  | .call { callee := .builtin b, .. } => (match b with | .len | .cap | .min | .max => true | _ => false)
  | _ => false
def optsOk (env : Env) : Option Operand → Bool
  | none => true
  | some x => (ev env x).isSome
abbrev Caller := FuncId → List AV → AS → Option Nat → Option (AV × AS)
variable (cx : Cx) (call : Caller)
def rowSz (σ : AS) (n : Nat) : AV → Bool
  | .row L _ _ _ => match σ.get L with
    | some (.row _ sz _ _) => decide (sz = n)
    | _ => false
  | _ => true
def copyB (σ : AS) (t : TypeId) (d x : AV) : Option (AV × AS) :=
  match elemA P t with
  | some e => match sizeA P e with
    | some n => if 0 < n ∧ (elemsA σ n x).isSome = true ∧ rowSz σ n d = true then copyA cx σ d x else none
    | none => none
  | none => none
def calleeA (f : AV) (args : List AV) : Option (FuncId × List AV) :=
  match f with
  | .fn (.func g) first captured => some (g, first ++ args ++ captured)
  | _ => none
def effA (σ : AS) (env : Env) (o : Oper) : Option (AV × AS) :=
  match o.op with
  | .alloc t => match zeroA P t, o.dst with
    | some z, some d => pushA cx σ (cx.esc.contains d) z.cells
    | _, _ => none
  | .box _ x => match ev env x, o.dst with
    | some v, some d => pushA cx σ (cx.esc.contains d) v.cells
    | _, _ => none
  | .buildSlice t n parts => match evps env parts.toList with
    | some ps => buildSliceA P cx σ t n ps
    | none => none
  | .store t p x => match ev env p, ev env x with
    | some p, some x => match storeA P cx σ t p x with
      | some σ' => some (.tup [], σ')
      | none => none
    | _, _ => none
  | .makeMap t none => match P.underlying t, o.dst with
    | some (.map _ _), some d =>
      if cx.esc.contains d = true ∧ cx.ro.isNone = false then none
      else some (.map (σ.next (cx.esc.contains d)), σ.push (cx.esc.contains d) (.map []))
    | _, _ => none
  | .makeSlice t l c => match ev env l, ev env c with
    | some l, some c => makeSliceA P σ t l c
    | _, _ => none
  | .mapUpdate t m k x | .insert t m k x => match ev env m, ev env k, ev env x with
    | some m, some k, some x => match mapUpdateA P cx σ t m k x with
      | some σ' => some (.tup [], σ')
      | none => none
    | _, _, _ => none
  | .convert src dst x => match P.underlying src, P.underlying dst, ev env x with
    | some .string, some (.slice e), some (.str s) => match P.underlying e, sizeA P e with
      | some (.int .u8), some 1 => some (.row (σ.next false) 0 0 s.size, σ.push false (.row (s.data.toList.map fun b => .int .u8 b.toNat) 1 0 false))
      | _, _ => none
    | _, _, _ => none
  | .range t x => match P.underlying t, ev env x with
    | some (.map _ _), some .nilm => some (.ptr (σ.next false) 0, σ.push false (.iter .nilm))
    | some (.map _ _), some (.map (.hp i)) => match σ.get (.hp i) with
      | some (.map _) => some (.ptr (σ.next false) 0, σ.push false (.iter (.map (.hp i))))
      | _ => none
    | _, _ => none
  | .next x false => match ev env x with
    | some (.ptr L 0) => match σ.get L with
      | some (.iter .nilm) => some (.tup [.bool false], σ)
      | some (.iter (.map M)) => match σ.get M with
        | some (.map []) => some (.tup [.bool false], σ)
        | _ => none
      | _ => none
    | _ => none
  | .call { callee := .builtin b, args, argTypes } => match evs env args.toList with
    | some as => match b, as, argTypes.toList with
      | .append, [s, x], ts => (match appendA P cx σ ts s x with
        | some r => some r
        | none => appendZA P σ ts s x)
      | .copy, [d, x], t :: _ => copyB P cx σ t d x
      | .clear, [x], [t] => match clearA P cx σ t x with
        | some σ' => some (.tup [], σ')
        | none => none
      | .delete, [m, k], [t, _] => match deleteA P cx σ t m k with
        | some σ' => some (.tup [], σ')
        | none => none
      | _, _, _ => none
    | none => none
  | .call { callee := .value f, args, .. } => match ev env f, evs env args.toList with
    | some f, some as => match calleeA f as with
      | some (g, as) => call g as σ cx.ro
      | none => none
    | _, _ => none
  | _ => none
def putE (env : Env) (dst : Option Tmp) (v : AV) : Env :=
  match dst with
  | some d => env.set d v
  | none => env
def yieldedA (ops : List Oper) (env : Env) (j : Nat) : Option Bool :=
  match (ops[j]?).bind (·.dst) with
  | some d => match env.get d with
    | .bool b => some b
    | _ => none
  | none => none
def wantedA (ops : List Oper) (env : Env) (o : Oper) : Bool :=
  match o.guard with
  | none => true
  | some (j, want) => yieldedA ops env j == some want
def optsA (env : Env) (o : Oper) : Bool :=
  match o.op with
  | .slice _ _ lo hi mx => optsOk env lo && optsOk env hi && optsOk env mx
  | _ => true
def seqA (all : List Oper) : List Oper → Env → AS → Option (Env × AS)
  | [], env, σ => some (env, σ)
  | o :: os, env, σ =>
    if wantedA all env o = true then
      if isVal P o = true then
        if optsA env o = true then
          match valA P σ env o with
          | some v => seqA all os (putE env o.dst v) σ
          | none => none
        else none
      else match effA P cx call σ env o with
        | some (v, σ') => seqA all os (putE env o.dst v) σ'
        | none => none
    else seqA all os (putE env o.dst (.tup [])) σ
def isRow : AV → Bool
  | .row _ _ _ _ => true
  | _ => false
def flat (l : List AV) : Bool := l.all fun v => !isRow v
def rowPartsQ (sz : Nat) : List (Nat × AV) → List AV → Option (List AV)
  | [], es => some es
  | (i, v) :: ps, es =>
    if i < es.length ∧ flat v.cells = true ∧ okE sz v = true then rowPartsQ sz ps (es.set i v) else none
def newLoc (σ : AS) (esc : Bool) (k kh : Nat) : Loc := if esc then .hp (σ.hp.length + kh) else .st (σ.st.length + k)
def boxOk (esc : Bool) (cs : List AV) : Bool := !esc || (flat cs && AVs.inb 0 cs)
def newA (σ : AS) (env : Env) (k kh : Nat) (o : Oper) : Option (AV × AObj) :=
  match o.dst with
  | none => none
  | some d =>
    if (cx.esc.contains d && !cx.ro.isNone) = true then none
    else match o.op with
    | .alloc t => match zeroA P t with
      | some z => if AVs.inb 0 z.cells = true then some (.ptr (newLoc σ (cx.esc.contains d) k kh) 0, .cells z.cells) else none
      | none => none
    | .box _ x => match ev env x with
      | some v => if boxOk (cx.esc.contains d) v.cells = true then
          some (.ptr (newLoc σ (cx.esc.contains d) k kh) 0, .cells v.cells) else none
      | none => none
    | .buildSlice t n parts => match evps env parts.toList, elemA P t with
      | some ps, some e => match zeroA P e, sizeA P e with
        | some z, some sz =>
          if 0 < sz ∧ n * sz ≤ 2 ^ 24 ∧ okE sz z = true ∧ cx.esc.contains d = false then
            match rowPartsQ sz ps (List.replicate n z) with
            | some es => some (.row (newLoc σ false k kh) 0 0 n, .row es sz 0 false)
            | none => none
          else none
        | _, _ => none
      | _, _ => none
    | .makeMap t none => match P.underlying t with
      | some (.map _ _) => some (.map (newLoc σ (cx.esc.contains d) k kh), .map [])
      | _ => none
    | .makeSlice t l c => match elemA P t, ev env l, ev env c with
      | some e, some (.int .i64 n), some (.int .i64 m) => match zeroA P e, sizeA P e, bytesA P e with
        | some z, some sz, some b =>
          if 0 < sz ∧ okE sz z = true ∧ 0 ≤ n ∧ n ≤ m ∧ m * b ≤ 2 ^ 44 ∧ m ≤ 2 ^ 44 ∧ cx.esc.contains d = false then
            some (.row (newLoc σ false k kh) 0 0 n.toNat, .row (List.replicate n.toNat z) sz 0 false)
          else none
        | _, _, _ => none
      | _, _, _ => none
    | _ => none
def isNew (o : Oper) : Bool :=
  match o.op with
  | .alloc _ | .box .. | .buildSlice .. | .makeMap .. | .makeSlice .. => true
  | _ => false
def escNew (o : Oper) : Bool := isNew o && match o.dst with
  | some d => cx.esc.contains d
  | none => false
def qstep (σ : AS) (all : List Oper) (k kh : Nat) (env : Env) (o : Oper) : Option (AV × Option AObj) :=
  if wantedA all env o = true then
    if isVal P o = true then
      if optsA env o = true then
        match valA P σ env o with
        | some v => some (v, none)
        | none => none
      else none
    else if isNew o = true then
      match newA P cx σ env k kh o with
      | some (v, ob) => some (v, some ob)
      | none => none
    else match o.op with
      | .call { callee := .value f, args, .. } => match ev env f, evs env args.toList with
        | some f, some as => match calleeA f as with
          | some (g, as) => if AVs.inb σ.st.length as = true ∧ (all.all fun o => !escNew cx o) = true then
              (match call g as σ (some σ.st.length) with
              | some (v, _) => if v.inb σ.st.length = true then some (v, none) else none
              | none => none) else none
          | none => none
        | _, _ => none
      | _ => none
  else if isNew o = true then some (.tup [], some .dead) else some (.tup [], none)
def quietA (σ : AS) (all : List Oper) : List Oper → Env → List AObj → List AObj → Option (Env × List AObj × List AObj)
  | [], env, ns, nh => some (env, ns, nh)
  | o :: os, env, ns, nh =>
    match qstep P cx call σ all ns.length nh.length env o with
    | some (v, none) => quietA σ all os (putE env o.dst v) ns nh
    | some (v, some ob) => if escNew cx o = true then quietA σ all os (putE env o.dst v) ns (nh ++ [ob]) else quietA σ all os (putE env o.dst v) (ns ++ [ob]) nh
    | none => none
def isBS (o : Oper) : Bool :=
  match o.op with
  | .buildSlice .. => true
  | _ => false
def tmode (tails : List Nat) (id : Nat) : Nat := if tails.contains id = true then 1 else if tails.contains (id + 3000000) = true then 2 else 0
def quietOp (t : Nat) (o : Oper) : Bool :=
  isVal P o || (isNew o && !(t != 0 && isBS o)) || match o.op with
    | .call { callee := .value _, .. } => t != 1
    | _ => false
end
end Go.Abs
end
section
namespace Go.Abs
inductive AExit where
  | normal
  | exit (id : Nat)
  | ret
  deriving DecidableEq, Repr, Inhabited
structure Flags where
  esc : List Nat := []
  tails : List Nat := []
  keep : Bool := false
  deriving Inhabited
inductive How where
  | body (fl : Flags)
  | prim (p : List AV → AS → Option Nat → Option (AV × AS))
mutual
def AV.beq : AV → AV → Bool
  | .bool a, .bool b => a == b
  | .int k n, .int l m => decide (k = l) && decide (n = m)
  | .str a, .str b => a == b
  | .nilp, .nilp => true
  | .ptr L o, .ptr M p => decide (L = M) && decide (o = p)
  | .rptr cs o, .rptr ds p => AVs.beq cs ds && decide (o = p)
  | .eptr L v i o, .eptr M u j p => decide (L = M) && decide (v = u) && decide (i = j) && decide (o = p)
  | .nils, .nils => true
  | .sl f z es, .sl g y ds => f == g && decide (z = y) && AVs.beq es ds
  | .row L v o n, .row M u p m => decide (L = M) && decide (v = u) && decide (o = p) && decide (n = m)
  | .nilm, .nilm => true
  | .map L, .map M => decide (L = M)
  | .nilf, .nilf => true
  | .nili, .nili => true
  | .iface t v, .iface u w => decide (t = u) && AV.beq v w
  | .agg cs, .agg ds => AVs.beq cs ds
  | .tup cs, .tup ds => AVs.beq cs ds
  | _, _ => false
def AVs.beq : List AV → List AV → Bool
  | [], [] => true
  | a :: l, b :: m => AV.beq a b && AVs.beq l m
  | _, _ => false
end
def newSt (cx : Cx) (o : Oper) : Bool := isNew o && !escNew cx o
def newHp (cx : Cx) (o : Oper) : Bool := isNew o && escNew cx o
def runS {S : Type} (step : Nat → S → Option S) : Nat → Nat → S → Option S
  | 0, _, s => some s
  | m + 1, k, s => match step k s with
    | some s' => runS step m (k + 1) s'
    | none => none
def predsOf (o : Oper) : List Nat := (o.after.toList.filter (Region.binds .any)).map (·.on)
def ancsGo : List Oper → List (List Nat) → List (List Nat)
  | [], acc => acc
  | o :: os, acc => ancsGo os (acc ++ [((predsOf o).flatMap fun p => p :: acc.getD p []).eraseDups])
def ancsOf (ops : List Oper) : List (List Nat) := ancsGo ops []
def loose (an : List (List Nat)) (i j : Nat) : Bool := !(an.getD i []).contains j && !(an.getD j []).contains i
def isCallV (o : Oper) : Bool :=
  match o.op with
  | .call { callee := .value _, .. } => true
  | _ => false
def isEnv (o : Oper) : Bool :=
  match o.op with
  | .move _ | .assign _ | .pick .. | .build .. | .nilCheck _ | .unOp .. | .makeInterface .. | .makeFunc .. | .fieldAddr .. | .field .. | .index .. | .extract .. | .typeAssert .. | .binOp .. => true
  | .call { callee := .builtin b, .. } => (match b with | .cap | .min | .max => true | _ => false)
  | _ => false
section
variable (P : Program) (cx : Cx) (call : Caller) (σ0 : AS) (ops : List Oper)
def isT (o : Oper) : Bool := !isVal P o && !isNew o
def isCut (i : Nat) (o : Oper) : Bool := isCallV o && !isVal P o && !isNew o && (List.range ops.length).any fun j => match ops[j]? with
  | some oj => isNew oj && loose (ancsOf ops) i j
  | none => false
def allNear (i : Nat) : Bool := (List.range ops.length).all fun j => match ops[j]? with
  | some oj => isVal P oj || j == i || !loose (ancsOf ops) i j
  | none => true
def clsM (i : Nat) (o : Oper) : Nat :=
  if isVal P o = true then (if isEnv o = true then 0 else if allNear P ops i = true then 2 else 1)
  else if isNew o = true then 3 else if isCut P ops i o = true then 5 else 4
def isFull (i : Nat) : Bool := match ops[i]? with
  | some o => isT P o && !isCut P ops i o
  | none => false
def blkM (i : Nat) : Nat := ((List.range i).filter (isFull P ops)).length
def atBlk (p : Oper → Bool) (k i : Nat) : Bool := match ops[i]? with
  | some o => p o && blkM P ops i == k
  | none => false
def cntM (p : Oper → Bool) (k n : Nat) : Nat := ((List.range n).filter (atBlk P ops p k)).length
def reserveM (k : Nat) (σ : AS) : AS := { hp := σ.hp ++ List.replicate (cntM P ops (newHp cx) k ops.length) .dead, st := σ.st ++ List.replicate (cntM P ops (newSt cx) k ops.length) .dead }
def truncM (σ : AS) : AS := { hp := σ.hp.take σ0.hp.length, st := σ.st.take σ0.st.length }
def agreeB (e env : Env) (o : Oper) : Bool := o.op.operands.toList.all fun x => match ev e x, ev env x with
  | some a, some b => AV.beq a b
  | none, none => true
  | _, _ => false
def sameO : Option AV → Option AV → Bool
  | some a, some b => AV.beq a b
  | none, none => true
  | _, _ => false
def tchkM (chk : Option Env) (j : Nat) (σ σ' : AS) : Bool := (List.range ops.length).all fun i => match ops[i]? with
  | some o => if (clsM P ops i o == 1 && loose (ancsOf ops) i j) = true then (match chk with
      | none => false
      | some e => sameO (valA P (truncM σ0 σ) e o) (valA P (truncM σ0 σ') e o)) else true
  | none => true
def rvalM (chk : Option Env) (i : Nat) (o : Oper) (env : Env) (σ : AS) : Option AV :=
  if optsA env o = true then
    match clsM P ops i o with
    | 0 => valA P σ0 env o
    | 1 => (match chk with
      | none => valA P (truncM σ0 σ) env o
      | some e => if agreeB e env o = true then valA P (truncM σ0 σ) e o else none)
    | _ => valA P σ env o
  else none
def kSt (k : Nat) (σ : AS) : Nat := σ.st.length - cntM P ops (newSt cx) k ops.length
def kHp (k : Nat) (σ : AS) : Nat := σ.hp.length - cntM P ops (newHp cx) k ops.length
def noHp : Bool := ops.all fun o => !newHp cx o
def khM (k i : Nat) (σ : AS) : Nat := if noHp cx ops = true then 0 else kHp P cx ops k σ + cntM P ops (newHp cx) k i - σ0.hp.length
def cutCall (o : Oper) (env : Env) (σ : AS) : Option (AV × AS) :=
  match o.op with
  | .call { callee := .value f, args, .. } => match ev env f, evs env args.toList with
    | some f, some as => match calleeA f as with
      | some (g, as) =>
        if AVs.inb σ0.st.length as = true ∧ noHp cx ops = true ∧ σ0.st.length ≤ σ.st.length ∧ σ0.hp.length ≤ σ.hp.length then
          match call g as { hp := σ.hp, st := σ.st.take σ0.st.length } cx.ro with
          | some (v, σ1) => if v.inb σ0.st.length = true ∧ σ1.st.length = σ0.st.length ∧ σ.hp.length ≤ σ1.hp.length then some (v, { hp := σ1.hp, st := σ1.st ++ σ.st.drop σ0.st.length }) else none
          | none => none
        else none
      | none => none
    | _, _ => none
  | _ => none
def mres (pre : Bool) (chk : Option Env) (i : Nat) (o : Oper) (env : Env) (σ : AS) (k : Nat) : Option (AV × AS × Nat) :=
  match clsM P ops i o with
  | 3 =>
    if k = blkM P ops i ∧ σ0.st.length + cntM P ops (newSt cx) k ops.length ≤ σ.st.length ∧ σ0.hp.length + cntM P ops (newHp cx) k ops.length ≤ σ.hp.length then
      if wantedA ops env o = true then
        match newA P cx σ0 env (kSt P cx ops k σ + cntM P ops (newSt cx) k i - σ0.st.length) (khM P cx σ0 ops k i σ) o with
        | some (v, ob) => match σ.get (newLoc σ0 (escNew cx o) (kSt P cx ops k σ + cntM P ops (newSt cx) k i - σ0.st.length) (khM P cx σ0 ops k i σ)) with
          | some .dead => some (v, σ.set (newLoc σ0 (escNew cx o) (kSt P cx ops k σ + cntM P ops (newSt cx) k i - σ0.st.length) (khM P cx σ0 ops k i σ)) ob, k)
          | _ => none
        | none => none
      else some (.tup [], σ, k)
    else none
  | 4 =>
    if k = blkM P ops i then
      match (if wantedA ops env o = true then effA P cx call σ env o else some (.tup [], σ)) with
      | some (v, σ') => if (pre || tchkM P σ0 ops chk i σ (reserveM P cx ops (k + 1) σ')) = true then some (v, reserveM P cx ops (k + 1) σ', k + 1) else none
      | none => none
    else none
  | 5 =>
    if k = 0 then
      match (if wantedA ops env o = true then cutCall cx call σ0 ops o env σ else some (.tup [], σ)) with
      | some (v, σ') => if (pre || tchkM P σ0 ops chk i σ σ') = true then some (v, σ', k) else none
      | none => none
    else none
  | _ =>
    if wantedA ops env o = true then
      match rvalM P σ0 ops chk i o env σ with
      | some v => some (v, σ, k)
      | none => none
    else some (.tup [], σ, k)
def ms (pre : Bool) (chk : Option Env) (i : Nat) (s : Env × AS × Nat) : Option (Env × AS × Nat) :=
  match ops[i]? with
  | none => none
  | some o => match mres P cx call σ0 ops pre chk i o s.1 s.2.1 s.2.2 with
    | some (v, σ', k') => some (putE s.1 o.dst v, σ', k')
    | none => none
def anyLT : Bool := (List.range ops.length).any fun i => match ops[i]? with
  | some o => clsM P ops i o == 1 && (List.range ops.length).any fun j => match ops[j]? with
    | some oj => decide (4 ≤ clsM P ops j oj) && loose (ancsOf ops) i j
    | none => false
  | none => false
def mixA (env : Env) : Option (Env × AS) :=
  if (noHp cx ops || cx.ro.isNone) = true then
    if anyLT P ops = true then
      match runS (ms P cx call σ0 ops true none) ops.length 0 (env, reserveM P cx ops 0 σ0, 0) with
      | some (e, _, _) => match runS (ms P cx call σ0 ops false (some e)) ops.length 0 (env, reserveM P cx ops 0 σ0, 0) with
        | some (env', σ', _) => some (env', σ')
        | none => none
      | none => none
    else match runS (ms P cx call σ0 ops false none) ops.length 0 (env, reserveM P cx ops 0 σ0, 0) with
      | some (env', σ', _) => some (env', σ')
      | none => none
  else none
end
section
variable (P : Program) (cx : Cx) (tails : List Nat) (call : Caller)
def frzO (ro : Option Nat) (σ : AS) (L : Loc) : AS :=
  match σ.get L with
  | some (.cells cs) => match fzL ro σ cs with
    | some (ds, σ1) => match σ1.get L with
      | some (.cells _) => if (wok ro L && AVs.inb 0 ds) = true then σ1.set L (.cells ds) else σ
      | _ => σ
    | none => σ
  | _ => σ
def frzA (ro : Option Nat) (env : Env) : List Oper → AS → AS
  | [], σ => σ
  | o :: os, σ => match o.op with
    | .load t x => match aggA P t, ev env x with
      | some true, some (.ptr L 0) => frzA ro env os (frzO ro σ L)
      | _, _ => frzA ro env os σ
    | _ => frzA ro env os σ
def frzR (id : Nat) (ops : List Oper) (env : Env) (σ : AS) : AS := if tails.contains (id + 4000000) = true then frzA P cx.ro env ops σ else σ
def quietN (tail : Nat) (ops : List Oper) : Nat := (ops.takeWhile (quietOp P tail)).length
def regionA (id : Nat) (ops : List Oper) (draw : Bool) (env : Env) (σ : AS) : Option (Env × AS) :=
  if draw = true then
    if tails.contains (id + 1000000) = true then none else
    if tails.contains (id + 2000000) = true then mixA P cx call (frzR P cx tails id ops env σ) ops env else
    match quietA P cx call σ ops (ops.take (quietN P (tmode tails id) ops)) env [] [] with
    | some (env', ns, nh) => if (nh.isEmpty || cx.ro.isNone) = true then seqA P cx call ops (ops.drop (quietN P (tmode tails id) ops)) env' { hp := σ.hp ++ nh, st := σ.st ++ ns } else none
    | none => none
  else seqA P cx call ops ops env σ
abbrev St := Env × AS
def iterA (f : St → Option (AExit × St)) : Nat → St → Option (AExit × St)
  | 0, _ => none
  | n + 1, st => match f st with
    | some (.normal, st') => iterA f n st'
    | r => r
def execA (n : Nat) : Code → St → Option (AExit × St)
  | .skip, st => some (.normal, st)
  | .label _, st => some (.normal, st)
  | .region id ops draw, st => match regionA P cx tails call id ops.toList draw st.1 st.2 with
    | some st' => some (.normal, st')
    | none => none
  | .seq a b, st => match execA n a st with
    | some (.normal, st') => execA n b st'
    | r => r
  | .cond c x y, st => match ev st.1 c with
    | some (.bool true) => execA n x st
    | some (.bool false) => execA n y st
    | _ => none
  | .block id c, st => match execA n c st with
    | some (.exit i, st') => if i = id then some (.normal, st') else some (.exit i, st')
    | r => r
  | .loop c, st => iterA (execA n c) n st
  | .exit id, st => some (.exit id, st)
  | .ret, st => some (.ret, st)
  | _, _ => none
def resA (σ : AS) (env : Env) : List ResultVar → Option (List AV)
  | [] => some []
  | .tmp t :: rs => match resA σ env rs with
    | some vs => some (env.get t :: vs)
    | none => none
  | .cell a t :: rs => match loadA P σ t (env.get a), resA σ env rs with
    | some v, some vs => some (v :: vs)
    | _, _ => none
def oneA : List AV → AV
  | [v] => v
  | vs => .tup vs
end
section
variable (P : Program)
def frameA (fn : Func) (args : List AV) : Env := args ++ List.replicate (fn.ntmps - args.length) (.tup [])
def finishA (fl : Flags) (fn : Func) (h : Nat) : Option (AExit × St) → Option (AV × AS)
  | some (.exit _, _) => none
  | some (_, env, σ) => match resA P σ env fn.results.toList with
    | some vs =>
      if fl.keep = true then some (oneA vs, σ)
      else match (oneA vs).back h σ with
        | some v => if v.inb h = true then some (v, { σ with st := σ.st.take h }) else none
        | none => none
    | none => none
  | none => none
def cxOf (fl : Flags) (σ : AS) (ro : Option Nat) : Cx := { h := σ.st.length, ro := ro, esc := fl.esc }
def callN (how : FuncId → Option How) : Nat → Caller
  | 0, _, _, _, _ => none
  | n + 1, f, args, σ, ro =>
    match how f with
    | none => none
    | some (.prim p) => p args σ ro
    | some (.body fl) =>
      match P.funcs[f]? with
      | none => none
      | some fn => match fn.body with
        | none => none
        | some c => finishA P fl fn σ.st.length (execA P (cxOf fl σ ro) fl.tails (callN how n) n c (frameA fn args, σ))
end
end Go.Abs
end
