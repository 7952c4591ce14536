/- The abstract interpreter: operations, regions, code, calls. -/
import Derived.Test.YtjhgheheopcolaaGreatAbs1
set_option linter.unusedVariables false
set_option linter.unusedSimpArgs false
namespace Go.Abs

structure Cx where
  h : Nat
  ro : Option Nat
  esc : List Nat

/-- May object L be written? -/
def wok (ro : Option Nat) : Loc → Bool
  | .hp _ => ro.isNone
  | .st i => match ro with
    | none => true
    | some k => decide (k ≤ i)

/-- Rows of the stack that are stored into an object of the heap go to the heap. -/
def promL (ro : Option Nat) : AS → List AV → Option (List AV × AS)
  | σ, [] => some ([], σ)
  | σ, .row (.st i) v off len :: xs =>
    match σ.st[i]? with
    | some (.row es sz v' false) =>
      if v' = v ∧ wok ro (.st i) = true then
        match promL ro { hp := σ.hp ++ [.row es sz v false], st := σ.st.set i .dead } xs with
        | some (ys, σ') => some (.row (.hp σ.hp.length) v off len :: ys, σ')
        | none => none
      else none
    | _ => none
  | σ, x :: xs => match promL ro σ xs with
    | some (ys, σ') => some (x :: ys, σ')
    | none => none

/-- Rows that become part of an element are never written again. -/
def fzL (ro : Option Nat) : AS → List AV → Option (List AV × AS)
  | σ, [] => some ([], σ)
  | σ, .row L v off len :: xs =>
    match σ.get L with
    | some (.row es sz v' _) =>
      if v' = v ∧ wok ro L = true ∧ off + len ≤ es.length then
        match fzL ro (σ.set L (.row es sz v' true)) xs with
        | some (ys, σ') => some (.sl false sz ((es.drop off).take len) :: ys, σ')
        | none => none
      else none
    | _ => none
  | σ, x :: xs => match fzL ro σ xs with
    | some (ys, σ') => some (x :: ys, σ')
    | none => none

mutual
/-- A result, as its caller has it: rows of the callee's own are never written again. -/
def AV.back (h : Nat) (σ : AS) : AV → Option AV
  | .row (.st i) v off len =>
    if i < h then some (.row (.st i) v off len)
    else match σ.st[i]? with
    | some (.row es sz v' _) => if v' = v ∧ off + len ≤ es.length then some (.sl false sz ((es.drop off).take len)) else none
    | _ => none
  | .agg cs => match AVs.back h σ cs with
    | some cs' => some (.agg cs')
    | none => none
  | .tup cs => match AVs.back h σ cs with
    | some cs' => some (.tup cs')
    | none => none
  | v => some v
def AVs.back (h : Nat) (σ : AS) : List AV → Option (List AV)
  | [] => some []
  | x :: xs => match AV.back h σ x, AVs.back h σ xs with
    | some y, some ys => some (y :: ys)
    | _, _ => none
end

/-- A value of as many cells, with these cells. -/
def AV.withCells (x : AV) (cs : List AV) : Option AV :=
  match x, cs with
  | .agg _, cs => some (.agg cs)
  | _, [c] => if c.one = true then some c else none
  | _, _ => none

section
variable (P : Program) (cx : Cx)

def pushA (σ : AS) (esc : Bool) (cs : List AV) : Option (AV × AS) :=
  if esc = true then
    if cx.ro.isNone = true then
      match promL cx.ro σ cs with
      | some (cs', σ') => if AVs.inb 0 cs' = true then some (.ptr (σ'.next true) 0, σ'.push true (.cells cs')) else none
      | none => none
    else none
  else some (.ptr (σ.next false) 0, σ.push false (.cells cs))

def loadA (σ : AS) (t : TypeId) : AV → Option AV
  | .ptr L o => match σ.get L with
    | some (.cells cs) => partA P t cs o
    | _ => none
  | .rptr cs o => partA P t cs o
  | .eptr L v i o => match σ.get L with
    | some (.row es _ v' _) => if v' = v then (match es[i]? with
      | some e => partA P t e.cells o
      | none => none) else none
    | _ => none
  | _ => none

def storeA (σ : AS) (t : TypeId) (p x : AV) : Option AS :=
  if sizeA P t = some x.cells.length ∧ x.cells.all AV.one = true then
    match p with
    | .ptr L o => match σ.get L with
      | some (.cells cs) =>
        if wok cx.ro L = true ∧ o + x.cells.length ≤ cs.length then
          match L with
          | .hp i => match promL cx.ro σ x.cells with
            | some (xs, σ') => if AVs.inb 0 xs = true then some (σ'.set (.hp i) (.cells (lay cs o xs))) else none
            | none => none
          | .st i => if (decide (cx.h ≤ i) || AVs.inb i x.cells) = true then some (σ.set (.st i) (.cells (lay cs o x.cells))) else none
        else none
      | _ => none
    | .eptr L v i o => match fzL cx.ro σ x.cells with
      | some (xs, σ') => match σ'.get L with
        | some (.row es sz v' false) =>
          if v' = v ∧ wok cx.ro L = true then
            match es[i]? with
            | some e => if o + xs.length ≤ e.cells.length then
                (match e.withCells (lay e.cells o xs) with
                | some e' => if okE sz e' = true then some (σ'.set L (.row (es.set i e') sz v' false)) else none
                | none => none)
              else none
            | none => none
          else none
        | _ => none
      | none => none
    | _ => none
  else none

def placesA : List Field → Option (List (Nat × Nat))
  | [] => some []
  | f :: fs => match sizeA P f.type, placesA fs with
    | some n, some ps => some ((f.offset, n) :: ps)
    | _, _ => none
def fillA (place : Nat → Option (Nat × Nat)) : List (Nat × AV) → List AV → Option (List AV)
  | [], cs => some cs
  | (i, v) :: ps, cs => match place i with
    | some (off, n) => if v.cells.length = n ∧ off + n ≤ cs.length then fillA place ps (lay cs off v.cells) else none
    | none => none
def buildA (t : TypeId) (parts : List (Nat × AV)) : Option AV :=
  match zeroA P t, P.underlying t with
  | some z, some (.struct fs) => match placesA P fs.toList with
    | some pl => (fillA (fun i => pl[i]?) parts z.cells).map .agg
    | none => none
  | some z, some (.array _ e) => match sizeA P e with
    | some n => (fillA (fun i => some (i * n, n)) parts z.cells).map .agg
    | none => none
  | _, _ => none

/-- Elements i of a new row. -/
def rowParts (ro : Option Nat) (sz : Nat) : List (Nat × AV) → List AV → AS → Option (List AV × AS)
  | [], es, σ => some (es, σ)
  | (i, v) :: ps, es, σ =>
    if i < es.length then
      match fzL ro σ v.cells with
      | some (cs, σ') => (match v.withCells cs with
        | some v' => if okE sz v' = true then rowParts ro sz ps (es.set i v') σ' else none
        | none => none)
      | none => none
    else none
def buildSliceA (σ : AS) (t : TypeId) (n : Nat) (parts : List (Nat × AV)) : Option (AV × AS) :=
  match elemA P t with
  | some e => match zeroA P e, sizeA P e with
    | some z, some sz =>
      if 0 < sz ∧ n * sz ≤ 2 ^ 24 ∧ okE sz z = true then
        match rowParts cx.ro sz parts (List.replicate n z) σ with
        | some (es, σ') => some (.row (σ'.next false) 0 0 n, σ'.push false (.row es sz 0 false))
        | none => none
      else none
    | _, _ => none
  | none => none

/-- The elements of a slice or a string. -/
def elemsA (σ : AS) (sz : Nat) : AV → Option (List AV)
  | .nils => some []
  | .sl _ sz' es => if sz' = sz then some es else none
  | .row L v off len => match σ.get L with
    | some (.row es sz' v' _) => if v' = v ∧ sz' = sz ∧ off + len ≤ es.length then some ((es.drop off).take len) else none
    | _ => none
  | .str s => if sz = 1 then some (s.data.toList.map fun b => .int .u8 b.toNat) else none
  | _ => none

def bytesOk (n b : Nat) : Bool := decide (n * b ≤ 2 ^ 44 ∧ n ≤ 2 ^ 44 ∧ b ≤ 2 ^ 30)

def isSrc : TypeDesc → Bool
  | .slice _ | .string => true
  | _ => false

def appendA (σ : AS) (argTypes : List TypeId) (s x : AV) : Option (AV × AS) :=
  match argTypes with
  | [st, xt] => match elemA P st, P.underlying xt with
    | some e, some xd => match sizeA P e, bytesA P e with
      | some sz, some b =>
        if 0 < sz ∧ isSrc xd = true ∧ (zeroA P e).map (·.cells.length) = some sz then
          match elemsA σ sz x with
          | none => none
          | some xs => match s with
          | .nils => if xs.isEmpty = true then some (.nils, σ)
            else if bytesOk xs.length b = true then some (.row (σ.next false) 0 0 xs.length, σ.push false (.row xs sz 0 false)) else none
          | .sl full sz' es => if xs.isEmpty = true then some (.sl full sz' es, σ)
            else if full = true ∧ sz' = sz ∧ bytesOk (es.length + xs.length) b = true then
              some (.row (σ.next false) 0 0 (es.length + xs.length), σ.push false (.row (es ++ xs) sz 0 false)) else none
          | .row L v off len => match σ.get L with
            | some (.row es sz' v' false) =>
              if v' = v ∧ sz' = sz ∧ wok cx.ro L = true ∧ off + len ≤ es.length then
                if off + len + xs.length ≤ es.length then some (.row L v off (len + xs.length), σ.set L (.row (lay es (off + len) xs) sz v false))
                else if off = 0 ∧ len = es.length ∧ bytesOk (es.length + xs.length) b = true then
                  some (.row L (v + 1) 0 (len + xs.length), σ.set L (.row (es ++ xs) sz (v + 1) false))
                else none
              else none
            | _ => none
          | _ => none
        else none
      | _, _ => none
    | _, _ => none
  | _ => none

/-- append(nil, make([]T, n)...): n zeros. -/
def appendZA (σ : AS) (argTypes : List TypeId) (s x : AV) : Option (AV × AS) :=
  match argTypes with
  | [st, xt] => match s, x with
    | .nils, .int .i64 n => match elemA P st, P.underlying xt with
      | some e, some (.int _) => match sizeA P e, bytesA P e, zeroA P e with
        | some sz, some b, some z =>
          if 0 < sz ∧ okE sz z = true ∧ 0 < n ∧ bytesOk n.toNat b = true then
            some (.row (σ.next false) 0 0 n.toNat, σ.push false (.row (List.replicate n.toNat z) sz 0 false)) else none
        | _, _, _ => none
      | _, _ => none
    | _, _ => none
  | _ => none

def copyA (σ : AS) (d x : AV) : Option (AV × AS) :=
  match d with
  | .nils => some (.int .i64 0, σ)
  | .row L v off len => match σ.get L with
    | some (.row es sz v' false) => match elemsA σ sz x with
      | some xs =>
        if v' = v ∧ wok cx.ro L = true ∧ off + len ≤ es.length then
          some (.int .i64 (min xs.length len : Nat), σ.set L (.row (lay es off (xs.take len)) sz v false))
        else none
      | none => none
    | _ => none
  | _ => none

def clearA (σ : AS) (t : TypeId) (x : AV) : Option AS :=
  match elemA P t, x with
  | some e, .row L v off len => match σ.get L, zeroA P e with
    | some (.row es sz v' false), some z =>
      if v' = v ∧ sizeA P e = some sz ∧ okE sz z = true ∧ wok cx.ro L = true ∧ off + len ≤ es.length then
        some (σ.set L (.row (lay es off (List.replicate len z)) sz v false))
      else none
    | _, _ => none
  | some _, .nils => some σ
  | _, _ => none

def isKey : TypeDesc → Bool
  | .int _ | .string | .bool => true
  | _ => false
def keyEq : AV → AV → Option Bool
  | .int k a, .int k' b => if k = k' then some (a == b) else none
  | .str a, .str b => some (beqS a b)
  | .bool a, .bool b => some (a == b)
  | _, _ => none
def findA (k : AV) : List (AV × AV) → Option (Option AV)
  | [] => some none
  | e :: es => match keyEq k e.1 with
    | some true => some (some e.2)
    | some false => findA k es
    | none => none
def putA (k v : AV) : List (AV × AV) → Option (List (AV × AV))
  | [] => some [(k, v)]
  | e :: es => match keyEq k e.1 with
    | some true => some ((k, v) :: es)
    | some false => match putA k v es with
      | some es' => some (e :: es')
      | none => none
    | none => none
def dropA (k : AV) : List (AV × AV) → Option (List (AV × AV))
  | [] => some []
  | e :: es => match keyEq k e.1 with
    | some true => some es
    | some false => match dropA k es with
      | some es' => some (e :: es')
      | none => none
    | none => none
def keyFits : TypeDesc → AV → Bool
  | .int k, .int k' _ => decide (k = k')
  | .string, .str _ => true
  | .bool, .bool _ => true
  | _, _ => false

def lookupA (σ : AS) (t : TypeId) (m k : AV) (ok : Bool) : Option AV :=
  match P.underlying t with
  | some (.map kt et) => match P.underlying kt, zeroA P et with
    | some kd, some z =>
      if keyFits kd k = true then
        match m with
        | .nilm => some (if ok then .tup [z, .bool false] else z)
        | .map L => match σ.get L with
          | some (.map es) => match findA k es with
            | some (some v) => some (if ok then .tup [v, .bool true] else v)
            | some none => some (if ok then .tup [z, .bool false] else z)
            | none => none
          | _ => none
        | _ => none
      else none
    | _, _ => none
  | _ => none

/-- A key of structs, looked up in a map that has nothing. -/
def ckA : Nat → TypeId → AV → Bool
  | 0, _, _ => false
  | n + 1, t, v => match P.underlying t with
    | some (.struct fs) => (match v with
      | .agg cs => fs.toList.all fun f => match partA P f.type cs f.offset with
        | some x => ckA n f.type x
        | none => false
      | _ => false)
    | some (.interface _) | some (.array _ _) | none => false
    | some _ => true
def lookupEA (σ : AS) (t : TypeId) (m k : AV) (ok : Bool) : Option AV :=
  match P.underlying t with
  | some (.map kt et) => match zeroA P et with
    | some z => if ckA P 20 kt k = true then
        match m with
        | .nilm => some (if ok then .tup [z, .bool false] else z)
        | .map L => match σ.get L with
          | some (.map []) => some (if ok then .tup [z, .bool false] else z)
          | _ => none
        | _ => none
      else none
    | none => none
  | _ => none

def mapUpdateA (σ : AS) (t : TypeId) (m k v : AV) : Option AS :=
  match P.underlying t with
  | some (.map kt _) => match P.underlying kt with
    | some kd =>
      if keyFits kd k = true then
        match fzL cx.ro σ v.cells with
        | some (cs, σ') => match v.withCells cs, m with
          | some v', .map L => match σ'.get L with
            | some (.map es) => if wok cx.ro L = true ∧ v'.inb 0 = true then (match putA k v' es with
              | some es' => some (σ'.set L (.map es'))
              | none => none) else none
            | _ => none
          | _, _ => none
        | none => none
      else none
    | none => none
  | _ => none

def deleteA (σ : AS) (t : TypeId) (m k : AV) : Option AS :=
  match P.underlying t with
  | some (.map kt _) => match P.underlying kt with
    | some kd =>
      if keyFits kd k = true then
        match m with
        | .nilm => some σ
        | .map L => match σ.get L with
          | some (.map es) => if wok cx.ro L = true then (match dropA k es with
              | some es' => some (σ.set L (.map es'))
              | none => none) else none
          | _ => none
        | _ => none
      else none
    | none => none
  | _ => none

def lenA (σ : AS) (t : TypeId) (x : AV) : Option Nat :=
  match P.underlying t, x with
  | some .string, .str s => some s.size
  | some (.array n _), _ => some n
  | some (.slice _), .nils => some 0
  | some (.slice _), .sl _ _ es => some es.length
  | some (.slice _), .row _ _ _ len => some len
  | some (.map _ _), .nilm => some 0
  | some (.map _ _), .map L => match σ.get L with
    | some (.map es) => some es.length
    | _ => none
  | _, _ => none
def capA (t : TypeId) (x : AV) : Option Nat :=
  match P.underlying t, x with
  | some (.array n _), _ => some n
  | some (.slice _), .nils => some 0
  | some (.slice _), .sl true _ es => some es.length
  | _, _ => none

def makeSliceA (σ : AS) (t : TypeId) (l c : AV) : Option (AV × AS) :=
  match elemA P t, l, c with
  | some e, .int .i64 n, .int .i64 m => match zeroA P e, sizeA P e, bytesA P e with
    | some z, some sz, some b =>
      if 0 < sz ∧ okE sz z = true ∧ 0 ≤ n ∧ n ≤ m ∧ m * b ≤ 2 ^ 44 ∧ m ≤ 2 ^ 44 then
        some (.row (σ.next false) 0 0 n.toNat, σ.push false (.row (List.replicate n.toNat z) sz 0 false))
      else none
    | _, _, _ => none
  | _, _, _ => none

def intOf? : Option AV → Option (Option Int)
  | none => some none
  | some (.int _ n) => some (some n)
  | some _ => none
/-- low, high, max over a length and a greatest one. -/
def boundsA (len cap : Nat) (lo hi mx : Option Int) : Option (Nat × Nat × Nat) :=
  match (match mx with
    | some m => if 0 ≤ m ∧ m ≤ cap then some m.toNat else none
    | none => some cap) with
  | some m => match (match hi with
      | some h => if 0 ≤ h ∧ h ≤ m then some h.toNat else none
      | none => if mx.isSome = true then none else some len) with
    | some h => match lo with
      | some l => if 0 ≤ l ∧ l ≤ h then some (l.toNat, h, m) else none
      | none => some (0, h, m)
    | none => none
  | none => none

def sliceA (σ : AS) (t : TypeId) (x : AV) (lo hi mx : Option AV) : Option AV :=
  match intOf? lo, intOf? hi, intOf? mx with
  | some lo, some hi, some mx => match P.underlying t, x with
    | some .string, .str s => if mx.isSome = true then none else match boundsA s.size s.size lo hi none with
      | some (l, h, _) => some (.str (s.extract l h))
      | none => none
    | some (.slice e), .nils => if (sizeA P e).isSome = true then (match boundsA 0 0 lo hi mx with
      | some _ => some .nils
      | none => none) else none
    | some (.slice e), .sl full sz es => if sizeA P e = some sz then match boundsA es.length es.length lo hi mx with
      | some (l, h, m) => some (.sl ((decide (h = m)) && (mx.isSome || full)) sz ((es.drop l).take (h - l)))
      | none => none
      else none
    | some (.slice e), .row L v off len => match σ.get L with
      | some (.row es sz v' _) =>
        if v' = v ∧ off + len ≤ es.length ∧ sizeA P e = some sz then
          match boundsA len (es.length - off) lo hi mx with
          | some (l, h, m) =>
            if mx.isNone = true then some (.row L v (off + l) (h - l))
            else if l = h ∧ h = m then some (.sl true sz []) else none
          | none => none
        else none
      | _ => none
    | _, _ => none
  | _, _, _ => none

def indexAddrA (σ : AS) (t : TypeId) (x i : AV) : Option AV :=
  match i with
  | .int _ i =>
    if 0 ≤ i then
      match P.underlying t, x with
      | some (.array n e), .ptr L o => match sizeA P e with
        | some sz => if i < n then some (.ptr L (o + i.toNat * sz)) else none
        | none => none
      | some (.array n e), .rptr cs o => match sizeA P e with
        | some sz => if i < n then some (.rptr cs (o + i.toNat * sz)) else none
        | none => none
      | some (.slice e), .sl _ sz' es => match sizeA P e, es[i.toNat]? with
        | some sz, some c => if sz' = sz ∧ 0 < sz then some (.rptr c.cells 0) else none
        | _, _ => none
      | some (.slice e), .row L v off len => match sizeA P e, σ.get L with
        | some sz, some (.row es sz' v' _) => if v' = v ∧ sz' = sz ∧ i < len ∧ off + len ≤ es.length then some (.eptr L v (off + i.toNat) 0) else none
        | _, _ => none
      | _, _ => none
    else none
  | _ => none

def indexA (t : TypeId) (x i : AV) : Option AV :=
  match i with
  | .int _ i =>
    if 0 ≤ i then
      match P.underlying t, x with
      | some (.array n e), .agg cs => match sizeA P e with
        | some sz => if i < n then partA P e cs (i.toNat * sz) else none
        | none => none
      | some .string, .str s => match s.data.toList[i.toNat]? with
        | some b => some (.int .u8 b.toNat)
        | none => none
      | _, _ => none
    else none
  | _ => none

def fieldAddrA (s : TypeId) (x : AV) (i : Nat) : Option AV :=
  match fieldA P s i with
  | some f => match sizeA P f.type with
    | some (_ + 1) => match x with
      | .ptr L o => some (.ptr L (o + f.offset))
      | .rptr cs o => some (.rptr cs (o + f.offset))
      | .eptr L v i o => some (.eptr L v i (o + f.offset))
      | _ => none
    | _ => none
  | none => none
end
end Go.Abs
