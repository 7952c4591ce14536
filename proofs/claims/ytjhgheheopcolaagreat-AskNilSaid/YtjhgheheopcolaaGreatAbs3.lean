/- The abstract interpreter: operations of the text, regions, code, calls. -/
import Derived.Test.YtjhgheheopcolaaGreatAbs2
set_option linter.unusedVariables false
set_option linter.unusedSimpArgs false
namespace Go.Abs

def loK : IntKind → Int
  | .i8 => -128
  | .i16 => -32768
  | .i32 => -2147483648
  | .i64 => -9223372036854775808
  | _ => 0
def hiK : IntKind → Int
  | .i8 => 127
  | .i16 => 32767
  | .i32 => 2147483647
  | .i64 => 9223372036854775807
  | .u8 => 255
  | .u16 => 65535
  | .u32 => 4294967295
  | .u64 => 18446744073709551615
/-- 'k.wrap', fast where nothing wraps. -/
def wr (k : IntKind) (n : Int) : Int := if decide (loK k ≤ n) && decide (n ≤ hiK k) then n else k.wrap n

def intBinA (op : BinOp) (k : IntKind) (a b : Int) : Option AV :=
  match op with
  | .add => some (.int k (wr k (a + b)))
  | .sub => some (.int k (wr k (a - b)))
  | .mul => some (.int k (wr k (a * b)))
  | .quo => if b = 0 then none else some (.int k (wr k (a.tdiv b)))
  | .rem => if b = 0 then none else some (.int k (a.tmod b))
  | .and => some (.int k (wr k (BitVec.ofInt k.bits a &&& BitVec.ofInt k.bits b).toNat))
  | .or => some (.int k (wr k (BitVec.ofInt k.bits a ||| BitVec.ofInt k.bits b).toNat))
  | .xor => some (.int k (wr k (BitVec.ofInt k.bits a ^^^ BitVec.ofInt k.bits b).toNat))
  | .andNot => some (.int k (wr k (BitVec.ofInt k.bits a &&& ~~~ BitVec.ofInt k.bits b).toNat))
  | .eql => some (.bool (a == b))
  | .neq => some (.bool (a != b))
  | .lss => some (.bool (decide (a < b)))
  | .leq => some (.bool (decide (a ≤ b)))
  | .gtr => some (.bool (decide (a > b)))
  | .geq => some (.bool (decide (a ≥ b)))
  | _ => none
def shiftA (op : BinOp) (k : IntKind) (a b : Int) : Option AV :=
  if b < 0 then none
  else match op with
    | .shl => some (.int k (wr k (a * 2 ^ (min b.toNat k.bits))))
    | .shr => some (.int k (a.fdiv (2 ^ (min b.toNat k.bits))))
    | _ => none
def ltS (x y : ByteArray) : Bool := Op.bytesLess x.data.toList y.data.toList
def strBinA (op : BinOp) (x y : ByteArray) : Option AV :=
  match op with
  | .add => if x.size + y.size ≤ 9223372036854775807 then some (.str (x ++ y)) else none
  | .eql => some (.bool (beqS x y))
  | .neq => some (.bool (!beqS x y))
  | .lss => some (.bool (ltS x y))
  | .leq => some (.bool (ltS x y || beqS x y))
  | .gtr => some (.bool (!(ltS x y || beqS x y)))
  | .geq => some (.bool (!ltS x y))
  | _ => none

def isConst : Operand → Bool
  | .const _ => true
  | _ => false

section
variable (P : Program)

/-- May two values of that type be held against each other (no two nil interface values of a type with methods in them)? -/
def guardOk (t : TypeId) (x y : Operand) (a b : AV) : Bool :=
  match a, b with
  | .nili, .nili => isConst x || isConst y
  | .agg _, .agg _ => !P.eqGuardType P.depth t
  | _, _ => true

def binA (op : BinOp) (t : TypeId) (x y : Operand) (a b : AV) : Option AV :=
  match a, b with
  | .int k m, .int k' n =>
    if (op == .shl || op == .shr) = true then shiftA op k m n
    else if k = k' then intBinA op k m n else none
  | .str m, .str n => strBinA op m n
  | a, b =>
    match op with
    | .eql => if guardOk P t x y a b = true then (eqA P 40 t a b).map .bool else none
    | .neq => if guardOk P t x y a b = true then (eqA P 40 t a b).map fun r => .bool (!r) else none
    | _ => none

def unA (op : UnOp) (x : AV) : Option AV :=
  match op, x with
  | .neg, .int k n => some (.int k (wr k (0 - n)))
  | .xor, .int k n => some (.int k (wr k (BitVec.ofInt k.bits (if k.signed then -1 else k.max) ^^^ BitVec.ofInt k.bits n).toNat))
  | .not, .bool b => some (.bool !b)
  | _, _ => none

def bytesOf? : List AV → Option (List UInt8)
  | [] => some []
  | .int .u8 n :: xs => (bytesOf? xs).map (UInt8.ofNat n.toNat :: ·)
  | _ => none

def convA (σ : AS) (src dst : TypeId) (x : AV) : Option AV :=
  match P.underlying src, P.underlying dst, x with
  | some _, some (.int k), .int _ n => some (.int k (wr k n))
  | some _, some .string, .int _ n => some (.str (Utf8.encode n))
  | some _, some .string, .str s => some (.str s)
  | some (.slice e), some .string, x => match P.underlying e with
    | some (.int .u8) => match elemsA σ 1 x with
      | some es => (bytesOf? es).map fun l => .str ⟨l.toArray⟩
      | none => none
    | _ => none
  | _, _, _ => none

def fieldValA (t : TypeId) (x : AV) (i : Nat) : Option AV :=
  match fieldA P t i, x with
  | some f, .agg cs => partA P f.type cs f.offset
  | _, _ => none

def assertA (x : AV) (asserted : TypeId) (ok : Bool) : Option AV :=
  match P.underlying asserted with
  | some (.interface _) => none
  | some _ => match x with
    | .iface t v => if t = asserted then some (if ok then .tup [v, .bool true] else v)
      else if ok = true then (match zeroA P asserted with
        | some z => some (.tup [z, .bool false])
        | none => none) else none
    | .nili => if ok = true then (match zeroA P asserted with
        | some z => some (.tup [z, .bool false])
        | none => none) else none
    | _ => none
  | none => none

def mmStep (mx : Bool) (k : IntKind) : Option Int → AV → Option Int
  | some a, .int k' b => if k' = k then some (if mx then (if b > a then b else a) else (if b < a then b else a)) else none
  | _, _ => none
def minMaxA (mx : Bool) : List AV → Option AV
  | .int k a :: xs => (xs.foldl (mmStep mx k) (some a)).map (.int k)
  | _ => none

def nilCheckA : AV → Option AV
  | .ptr L o => some (.ptr L o)
  | .rptr cs o => some (.rptr cs o)
  | .eptr L v i o => some (.eptr L v i o)
  | .fn (.func f) a b => some (.fn (.func f) a b)
  | _ => none

/-- Operations that only make a value. -/
def valA (σ : AS) (env : Env) (o : Oper) : Option AV :=
  match o.op with
  | .move x | .assign x => ev env x
  | .pick c a b => match ev env c with
    | some (.bool true) => ev env a
    | some (.bool false) => ev env b
    | _ => none
  | .build t parts => match evps env parts.toList with
    | some ps => buildA P t ps
    | none => none
  | .load t a => match ev env a with
    | some a => loadA P σ t a
    | none => none
  | .nilCheck x => match ev env x with
    | some x => nilCheckA x
    | none => none
  | .binOp op t x y _ => match ev env x, ev env y with
    | some a, some b => binA P op t x y a b
    | _, _ => none
  | .unOp op _ x => match ev env x with
    | some a => unA op a
    | none => none
  | .convert src dst x => match ev env x with
    | some a => convA P σ src dst a
    | none => none
  | .makeInterface t x => match ev env x, P.underlying t with
    | some _, some (.interface _) => none
    | some a, some _ => some (.iface t a)
    | _, _ => none
  | .makeFunc fn first captured => match evs env first.toList, evs env captured.toList with
    | some a, some b => some (.fn fn a b)
    | _, _ => none
  | .slice t x lo hi mx => match ev env x with
    | some a => sliceA P σ t a (lo.bind (ev env)) (hi.bind (ev env)) (mx.bind (ev env))
    | none => none
  | .fieldAddr s x i => match ev env x with
    | some a => fieldAddrA P s a i
    | none => none
  | .field t x i => match ev env x with
    | some a => fieldValA P t a i
    | none => none
  | .indexAddr t x i => match ev env x, ev env i with
    | some a, some i => indexAddrA P σ t a i
    | _, _ => none
  | .index t x i => match ev env x, ev env i with
    | some a, some i => indexA P t a i
    | _, _ => none
  | .lookup t m k ok => match ev env m, ev env k with
    | some m, some k => (match lookupA P σ t m k ok with
      | some c => some c
      | none => lookupEA P σ t m k ok)
    | _, _ => none
  | .extract t i => match ev env t with
    | some (.tup vs) => vs[i]?
    | _ => none
  | .typeAssert x _ asserted ok => match ev env x with
    | some a => assertA P a asserted ok
    | none => none
  | .call { callee := .builtin b, args, argTypes } => match evs env args.toList with
    | some as => match b, as, argTypes.toList with
      | .len, [x], [t] => (lenA P σ t x).map fun (n : Nat) => AV.int .i64 (n : Int)
      | .cap, [x], [t] => (capA P t x).map fun (n : Nat) => AV.int .i64 (n : Int)
      | .min, as, _ => minMaxA false as
      | .max, as, _ => minMaxA true as
      | _, _, _ => none
    | none => none
  | _ => none

/-- Is an operation one of those? -/
def isVal (o : Oper) : Bool :=
  match o.op with
  | .move _ | .assign _ | .pick .. | .build .. | .load .. | .nilCheck _ | .binOp .. | .unOp .. | .makeInterface .. | .makeFunc .. | .slice .. | .fieldAddr ..
  | .field .. | .indexAddr .. | .index .. | .lookup .. | .extract .. | .typeAssert .. => true
  | .convert _ dst _ => (match P.underlying dst with | some (.slice _) => false | _ => true)
  | .call { callee := .builtin b, .. } => (match b with | .len | .cap | .min | .max => true | _ => false)
  | _ => false

def optsOk (env : Env) : Option Operand → Bool
  | none => true
  | some x => (ev env x).isSome

abbrev Caller := FuncId → List AV → AS → Option Nat → Option (AV × AS)

variable (cx : Cx) (call : Caller)

def rowSz (σ : AS) (n : Nat) : AV → Bool
  | .row L _ _ _ => match σ.get L with
    | some (.row _ sz _ _) => decide (sz = n)
    | _ => false
  | _ => true
def copyB (σ : AS) (t : TypeId) (d x : AV) : Option (AV × AS) :=
  match elemA P t with
  | some e => match sizeA P e with
    | some n => if 0 < n ∧ (elemsA σ n x).isSome = true ∧ rowSz σ n d = true then copyA cx σ d x else none
    | none => none
  | none => none

/-- What a value calls, with which arguments. -/
def calleeA (f : AV) (args : List AV) : Option (FuncId × List AV) :=
  match f with
  | .fn (.func g) first captured => some (g, first ++ args ++ captured)
  | _ => none

/-- Operations that make objects, write them, or call. -/
def effA (σ : AS) (env : Env) (o : Oper) : Option (AV × AS) :=
  match o.op with
  | .alloc t => match zeroA P t, o.dst with
    | some z, some d => pushA cx σ (cx.esc.contains d) z.cells
    | _, _ => none
  | .box _ x => match ev env x, o.dst with
    | some v, some d => pushA cx σ (cx.esc.contains d) v.cells
    | _, _ => none
  | .buildSlice t n parts => match evps env parts.toList with
    | some ps => buildSliceA P cx σ t n ps
    | none => none
  | .store t p x => match ev env p, ev env x with
    | some p, some x => match storeA P cx σ t p x with
      | some σ' => some (.tup [], σ')
      | none => none
    | _, _ => none
  | .makeMap t none => match P.underlying t, o.dst with
    | some (.map _ _), some d =>
      if cx.esc.contains d = true ∧ cx.ro.isNone = false then none
      else some (.map (σ.next (cx.esc.contains d)), σ.push (cx.esc.contains d) (.map []))
    | _, _ => none
  | .makeSlice t l c => match ev env l, ev env c with
    | some l, some c => makeSliceA P σ t l c
    | _, _ => none
  | .mapUpdate t m k x | .insert t m k x => match ev env m, ev env k, ev env x with
    | some m, some k, some x => match mapUpdateA P cx σ t m k x with
      | some σ' => some (.tup [], σ')
      | none => none
    | _, _, _ => none
  | .convert src dst x => match P.underlying src, P.underlying dst, ev env x with
    | some .string, some (.slice e), some (.str s) => match P.underlying e, sizeA P e with
      | some (.int .u8), some 1 => some (.row (σ.next false) 0 0 s.size, σ.push false (.row (s.data.toList.map fun b => .int .u8 b.toNat) 1 0 false))
      | _, _ => none
    | _, _, _ => none
  | .range t x => match P.underlying t, ev env x with
    | some (.map _ _), some .nilm => some (.ptr (σ.next false) 0, σ.push false (.iter .nilm))
    | some (.map _ _), some (.map (.hp i)) => match σ.get (.hp i) with
      | some (.map _) => some (.ptr (σ.next false) 0, σ.push false (.iter (.map (.hp i))))
      | _ => none
    | _, _ => none
  | .next x false => match ev env x with
    | some (.ptr L 0) => match σ.get L with
      | some (.iter .nilm) => some (.tup [.bool false], σ)
      | some (.iter (.map M)) => match σ.get M with
        | some (.map []) => some (.tup [.bool false], σ)
        | _ => none
      | _ => none
    | _ => none
  | .call { callee := .builtin b, args, argTypes } => match evs env args.toList with
    | some as => match b, as, argTypes.toList with
      | .append, [s, x], ts => (match appendA P cx σ ts s x with
        | some r => some r
        | none => appendZA P σ ts s x)
      | .copy, [d, x], t :: _ => copyB P cx σ t d x
      | .clear, [x], [t] => match clearA P cx σ t x with
        | some σ' => some (.tup [], σ')
        | none => none
      | .delete, [m, k], [t, _] => match deleteA P cx σ t m k with
        | some σ' => some (.tup [], σ')
        | none => none
      | _, _, _ => none
    | none => none
  | .call { callee := .value f, args, .. } => match ev env f, evs env args.toList with
    | some f, some as => match calleeA f as with
      | some (g, as) => call g as σ cx.ro
      | none => none
    | _, _ => none
  | _ => none

def putE (env : Env) (dst : Option Tmp) (v : AV) : Env :=
  match dst with
  | some d => env.set d v
  | none => env

def yieldedA (ops : List Oper) (env : Env) (j : Nat) : Option Bool :=
  match (ops[j]?).bind (·.dst) with
  | some d => match env.get d with
    | .bool b => some b
    | _ => none
  | none => none
def wantedA (ops : List Oper) (env : Env) (o : Oper) : Bool :=
  match o.guard with
  | none => true
  | some (j, want) => yieldedA ops env j == some want

def optsA (env : Env) (o : Oper) : Bool :=
  match o.op with
  | .slice _ _ lo hi mx => optsOk env lo && optsOk env hi && optsOk env mx
  | _ => true

/-- One operation behind the other. -/
def seqA (all : List Oper) : List Oper → Env → AS → Option (Env × AS)
  | [], env, σ => some (env, σ)
  | o :: os, env, σ =>
    if wantedA all env o = true then
      if isVal P o = true then
        if optsA env o = true then
          match valA P σ env o with
          | some v => seqA all os (putE env o.dst v) σ
          | none => none
        else none
      else match effA P cx call σ env o with
        | some (v, σ') => seqA all os (putE env o.dst v) σ'
        | none => none
    else seqA all os (putE env o.dst (.tup [])) σ

def isRow : AV → Bool
  | .row _ _ _ _ => true
  | _ => false
def flat (l : List AV) : Bool := l.all fun v => !isRow v

def rowPartsQ (sz : Nat) : List (Nat × AV) → List AV → Option (List AV)
  | [], es => some es
  | (i, v) :: ps, es =>
    if i < es.length ∧ flat v.cells = true ∧ okE sz v = true then rowPartsQ sz ps (es.set i v) else none

/-- The place of a new object that is laid behind others, k on the stack, kh on the heap. -/
def newLoc (σ : AS) (esc : Bool) (k kh : Nat) : Loc := if esc then .hp (σ.hp.length + kh) else .st (σ.st.length + k)

def boxOk (esc : Bool) (cs : List AV) : Bool := !esc || (flat cs && AVs.inb 0 cs)

/-- Operations that make an object: its value, the object. -/
def newA (σ : AS) (env : Env) (k kh : Nat) (o : Oper) : Option (AV × AObj) :=
  match o.dst with
  | none => none
  | some d =>
    if (cx.esc.contains d && !cx.ro.isNone) = true then none
    else match o.op with
    | .alloc t => match zeroA P t with
      | some z => if AVs.inb 0 z.cells = true then some (.ptr (newLoc σ (cx.esc.contains d) k kh) 0, .cells z.cells) else none
      | none => none
    | .box _ x => match ev env x with
      | some v => if boxOk (cx.esc.contains d) v.cells = true then
          some (.ptr (newLoc σ (cx.esc.contains d) k kh) 0, .cells v.cells) else none
      | none => none
    | .buildSlice t n parts => match evps env parts.toList, elemA P t with
      | some ps, some e => match zeroA P e, sizeA P e with
        | some z, some sz =>
          if 0 < sz ∧ n * sz ≤ 2 ^ 24 ∧ okE sz z = true ∧ cx.esc.contains d = false then
            match rowPartsQ sz ps (List.replicate n z) with
            | some es => some (.row (newLoc σ false k kh) 0 0 n, .row es sz 0 false)
            | none => none
          else none
        | _, _ => none
      | _, _ => none
    | .makeMap t none => match P.underlying t with
      | some (.map _ _) => some (.map (newLoc σ (cx.esc.contains d) k kh), .map [])
      | _ => none
    | .makeSlice t l c => match elemA P t, ev env l, ev env c with
      | some e, some (.int .i64 n), some (.int .i64 m) => match zeroA P e, sizeA P e, bytesA P e with
        | some z, some sz, some b =>
          if 0 < sz ∧ okE sz z = true ∧ 0 ≤ n ∧ n ≤ m ∧ m * b ≤ 2 ^ 44 ∧ m ≤ 2 ^ 44 ∧ cx.esc.contains d = false then
            some (.row (newLoc σ false k kh) 0 0 n.toNat, .row (List.replicate n.toNat z) sz 0 false)
          else none
        | _, _, _ => none
      | _, _, _ => none
    | _ => none

def isNew (o : Oper) : Bool :=
  match o.op with
  | .alloc _ | .box .. | .buildSlice .. | .makeMap .. | .makeSlice .. => true
  | _ => false

/-- Does it make an object of the heap? -/
def escNew (o : Oper) : Bool := isNew o && match o.dst with
  | some d => cx.esc.contains d
  | none => false

/-- Operations that may come in whatever order: each makes a value, or an object (to be laid behind them all), or calls what writes nothing. -/
def qstep (σ : AS) (all : List Oper) (k kh : Nat) (env : Env) (o : Oper) : Option (AV × Option AObj) :=
  if wantedA all env o = true then
    if isVal P o = true then
      if optsA env o = true then
        match valA P σ env o with
        | some v => some (v, none)
        | none => none
      else none
    else if isNew o = true then
      match newA P cx σ env k kh o with
      | some (v, ob) => some (v, some ob)
      | none => none
    else match o.op with
      | .call { callee := .value f, args, .. } => match ev env f, evs env args.toList with
        | some f, some as => match calleeA f as with
          | some (g, as) => if AVs.inb σ.st.length as = true ∧ (all.all fun o => !escNew cx o) = true then
              (match call g as σ (some σ.st.length) with
              | some (v, _) => if v.inb σ.st.length = true then some (v, none) else none
              | none => none) else none
          | none => none
        | _, _ => none
      | _ => none
  else if isNew o = true then some (.tup [], some .dead) else some (.tup [], none)

def quietA (σ : AS) (all : List Oper) : List Oper → Env → List AObj → List AObj → Option (Env × List AObj × List AObj)
  | [], env, ns, nh => some (env, ns, nh)
  | o :: os, env, ns, nh =>
    match qstep P cx call σ all ns.length nh.length env o with
    | some (v, none) => quietA σ all os (putE env o.dst v) ns nh
    | some (v, some ob) => if escNew cx o = true then quietA σ all os (putE env o.dst v) ns (nh ++ [ob]) else quietA σ all os (putE env o.dst v) (ns ++ [ob]) nh
    | none => none

def quietOp (tail : Bool) (o : Oper) : Bool :=
  isVal P o || isNew o || match o.op with
    | .call { callee := .value _, .. } => !tail
    | _ => false

end
end Go.Abs
