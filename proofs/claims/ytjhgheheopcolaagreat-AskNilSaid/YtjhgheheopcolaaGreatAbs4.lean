/- The abstract interpreter: code and calls. -/
import Derived.Test.YtjhgheheopcolaaGreatAbs3
import Derived.StillTail
set_option linter.unusedVariables false
set_option linter.unusedSimpArgs false
namespace Go.Abs

inductive AExit where
  | normal
  | exit (id : Nat)
  | ret
  deriving DecidableEq, Repr, Inhabited

structure Flags where
  esc : List Nat := []
  tails : List Nat := []
  keep : Bool := false
  deriving Inhabited

inductive How where
  | body (fl : Flags)
  | prim (p : List AV → AS → Option Nat → Option (AV × AS))

mutual
def AV.beq : AV → AV → Bool
  | .bool a, .bool b => a == b
  | .int k n, .int l m => decide (k = l) && decide (n = m)
  | .str a, .str b => a == b
  | .nilp, .nilp => true
  | .ptr L o, .ptr M p => decide (L = M) && decide (o = p)
  | .rptr cs o, .rptr ds p => AVs.beq cs ds && decide (o = p)
  | .eptr L v i o, .eptr M u j p => decide (L = M) && decide (v = u) && decide (i = j) && decide (o = p)
  | .nils, .nils => true
  | .sl f z es, .sl g y ds => f == g && decide (z = y) && AVs.beq es ds
  | .row L v o n, .row M u p m => decide (L = M) && decide (v = u) && decide (o = p) && decide (n = m)
  | .nilm, .nilm => true
  | .map L, .map M => decide (L = M)
  | .nilf, .nilf => true
  | .nili, .nili => true
  | .iface t v, .iface u w => decide (t = u) && AV.beq v w
  | .agg cs, .agg ds => AVs.beq cs ds
  | .tup cs, .tup ds => AVs.beq cs ds
  | _, _ => false
def AVs.beq : List AV → List AV → Bool
  | [], [] => true
  | a :: l, b :: m => AV.beq a b && AVs.beq l m
  | _, _ => false
end

def newSt (cx : Cx) (o : Oper) : Bool := isNew o && !escNew cx o
def newHp (cx : Cx) (o : Oper) : Bool := isNew o && escNew cx o

/-- The lexical run. -/
def runS {S : Type} (step : Nat → S → Option S) : Nat → Nat → S → Option S
  | 0, _, s => some s
  | m + 1, k, s => match step k s with
    | some s' => runS step m (k + 1) s'
    | none => none

/-! Regions in which calls and stores come one behind the other, and what makes values or objects comes when it may. -/
def predsOf (o : Oper) : List Nat := (o.after.toList.filter (Region.binds .any)).map (·.on)
/-- The operations that come ahead, for each operation. -/
def ancsGo : List Oper → List (List Nat) → List (List Nat)
  | [], acc => acc
  | o :: os, acc => ancsGo os (acc ++ [((predsOf o).flatMap fun p => p :: acc.getD p []).eraseDups])
def ancsOf (ops : List Oper) : List (List Nat) := ancsGo ops []
/-- Neither is ahead of the other. -/
def loose (an : List (List Nat)) (i j : Nat) : Bool := !(an.getD i []).contains j && !(an.getD j []).contains i
def isCallV (o : Oper) : Bool :=
  match o.op with
  | .call { callee := .value _, .. } => true
  | _ => false
def isEnv (o : Oper) : Bool :=
  match o.op with
  | .move _ | .assign _ | .pick .. | .build .. | .nilCheck _ | .unOp .. | .makeInterface .. | .makeFunc .. | .fieldAddr .. | .field .. | .index .. | .extract .. | .typeAssert .. | .binOp .. => true
  | .call { callee := .builtin b, .. } => (match b with | .cap | .min | .max => true | _ => false)
  | _ => false
section
variable (P : Program) (cx : Cx) (call : Caller) (σ0 : AS) (ops : List Oper)
def isT (o : Oper) : Bool := !isVal P o && !isNew o
/-- A call that runs beside what makes an object. -/
def isCut (i : Nat) (o : Oper) : Bool := isCallV o && !isVal P o && !isNew o && (List.range ops.length).any fun j => match ops[j]? with
  | some oj => isNew oj && loose (ancsOf ops) i j
  | none => false
def allNear (i : Nat) : Bool := (List.range ops.length).all fun j => match ops[j]? with
  | some oj => isVal P oj || j == i || !loose (ancsOf ops) i j
  | none => true
/-- 0: looks at the frame alone; 1: reads what was there; 2: reads; 3: makes an object; 4: whatever else; 5: a call beside what makes an object. -/
def clsM (i : Nat) (o : Oper) : Nat :=
  if isVal P o = true then (if isEnv o = true then 0 else if allNear P ops i = true then 2 else 1)
  else if isNew o = true then 3 else if isCut P ops i o = true then 5 else 4
def isFull (i : Nat) : Bool := match ops[i]? with
  | some o => isT P o && !isCut P ops i o
  | none => false
def blkM (i : Nat) : Nat := ((List.range i).filter (isFull P ops)).length
def atBlk (p : Oper → Bool) (k i : Nat) : Bool := match ops[i]? with
  | some o => p o && blkM P ops i == k
  | none => false
def cntM (p : Oper → Bool) (k n : Nat) : Nat := ((List.range n).filter (atBlk P ops p k)).length
def reserveM (k : Nat) (σ : AS) : AS := { hp := σ.hp ++ List.replicate (cntM P ops (newHp cx) k ops.length) .dead, st := σ.st ++ List.replicate (cntM P ops (newSt cx) k ops.length) .dead }
def truncM (σ : AS) : AS := { hp := σ.hp.take σ0.hp.length, st := σ.st.take σ0.st.length }
def agreeB (e env : Env) (o : Oper) : Bool := o.op.operands.toList.all fun x => match ev e x, ev env x with
  | some a, some b => AV.beq a b
  | none, none => true
  | _, _ => false
def sameO : Option AV → Option AV → Bool
  | some a, some b => AV.beq a b
  | none, none => true
  | _, _ => false
/-- Does what T did leave alone what is read? -/
def tchkM (chk : Option Env) (j : Nat) (σ σ' : AS) : Bool := (List.range ops.length).all fun i => match ops[i]? with
  | some o => if (clsM P ops i o == 1 && loose (ancsOf ops) i j) = true then (match chk with
      | none => false
      | some e => sameO (valA P (truncM σ0 σ) e o) (valA P (truncM σ0 σ') e o)) else true
  | none => true
def rvalM (chk : Option Env) (i : Nat) (o : Oper) (env : Env) (σ : AS) : Option AV :=
  if optsA env o = true then
    match clsM P ops i o with
    | 0 => valA P σ0 env o
    | 1 => (match chk with
      | none => valA P (truncM σ0 σ) env o
      | some e => if agreeB e env o = true then valA P (truncM σ0 σ) e o else none)
    | _ => valA P σ env o
  else none
/-- Where the block's objects begin. -/
def kSt (k : Nat) (σ : AS) : Nat := σ.st.length - cntM P ops (newSt cx) k ops.length
def kHp (k : Nat) (σ : AS) : Nat := σ.hp.length - cntM P ops (newHp cx) k ops.length
def noHp : Bool := ops.all fun o => !newHp cx o
def khM (k i : Nat) (σ : AS) : Nat := if noHp cx ops = true then 0 else kHp P cx ops k σ + cntM P ops (newHp cx) k i - σ0.hp.length
/-- A call in what was there ahead of the region's own objects. -/
def cutCall (o : Oper) (env : Env) (σ : AS) : Option (AV × AS) :=
  match o.op with
  | .call { callee := .value f, args, .. } => match ev env f, evs env args.toList with
    | some f, some as => match calleeA f as with
      | some (g, as) =>
        if AVs.inb σ0.st.length as = true ∧ noHp cx ops = true ∧ σ0.st.length ≤ σ.st.length ∧ σ0.hp.length ≤ σ.hp.length then
          match call g as { hp := σ.hp, st := σ.st.take σ0.st.length } cx.ro with
          | some (v, σ1) => if v.inb σ0.st.length = true ∧ σ1.st.length = σ0.st.length ∧ σ.hp.length ≤ σ1.hp.length then some (v, { hp := σ1.hp, st := σ1.st ++ σ.st.drop σ0.st.length }) else none
          | none => none
        else none
      | none => none
    | _, _ => none
  | _ => none
def mres (pre : Bool) (chk : Option Env) (i : Nat) (o : Oper) (env : Env) (σ : AS) (k : Nat) : Option (AV × AS × Nat) :=
  match clsM P ops i o with
  | 3 =>
    if k = blkM P ops i ∧ σ0.st.length + cntM P ops (newSt cx) k ops.length ≤ σ.st.length ∧ σ0.hp.length + cntM P ops (newHp cx) k ops.length ≤ σ.hp.length then
      if wantedA ops env o = true then
        match newA P cx σ0 env (kSt P cx ops k σ + cntM P ops (newSt cx) k i - σ0.st.length) (khM P cx σ0 ops k i σ) o with
        | some (v, ob) => match σ.get (newLoc σ0 (escNew cx o) (kSt P cx ops k σ + cntM P ops (newSt cx) k i - σ0.st.length) (khM P cx σ0 ops k i σ)) with
          | some .dead => some (v, σ.set (newLoc σ0 (escNew cx o) (kSt P cx ops k σ + cntM P ops (newSt cx) k i - σ0.st.length) (khM P cx σ0 ops k i σ)) ob, k)
          | _ => none
        | none => none
      else some (.tup [], σ, k)
    else none
  | 4 =>
    if k = blkM P ops i then
      match (if wantedA ops env o = true then effA P cx call σ env o else some (.tup [], σ)) with
      | some (v, σ') => if (pre || tchkM P σ0 ops chk i σ (reserveM P cx ops (k + 1) σ')) = true then some (v, reserveM P cx ops (k + 1) σ', k + 1) else none
      | none => none
    else none
  | 5 =>
    if k = 0 then
      match (if wantedA ops env o = true then cutCall cx call σ0 ops o env σ else some (.tup [], σ)) with
      | some (v, σ') => if (pre || tchkM P σ0 ops chk i σ σ') = true then some (v, σ', k) else none
      | none => none
    else none
  | _ =>
    if wantedA ops env o = true then
      match rvalM P σ0 ops chk i o env σ with
      | some v => some (v, σ, k)
      | none => none
    else some (.tup [], σ, k)
def ms (pre : Bool) (chk : Option Env) (i : Nat) (s : Env × AS × Nat) : Option (Env × AS × Nat) :=
  match ops[i]? with
  | none => none
  | some o => match mres P cx call σ0 ops pre chk i o s.1 s.2.1 s.2.2 with
    | some (v, σ', k') => some (putE s.1 o.dst v, σ', k')
    | none => none
/-- Is there a reading that may come ahead of a call, or behind it? -/
def anyLT : Bool := (List.range ops.length).any fun i => match ops[i]? with
  | some o => clsM P ops i o == 1 && (List.range ops.length).any fun j => match ops[j]? with
    | some oj => decide (4 ≤ clsM P ops j oj) && loose (ancsOf ops) i j
    | none => false
  | none => false
def mixA (env : Env) : Option (Env × AS) :=
  if (noHp cx ops || cx.ro.isNone) = true then
    if anyLT P ops = true then
      match runS (ms P cx call σ0 ops true none) ops.length 0 (env, reserveM P cx ops 0 σ0, 0) with
      | some (e, _, _) => match runS (ms P cx call σ0 ops false (some e)) ops.length 0 (env, reserveM P cx ops 0 σ0, 0) with
        | some (env', σ', _) => some (env', σ')
        | none => none
      | none => none
    else match runS (ms P cx call σ0 ops false none) ops.length 0 (env, reserveM P cx ops 0 σ0, 0) with
      | some (env', σ', _) => some (env', σ')
      | none => none
  else none
end

section
variable (P : Program) (cx : Cx) (tails : List Nat) (call : Caller)

def quietN (tail : Bool) (ops : List Oper) : Nat := (ops.takeWhile (quietOp P tail)).length

def regionA (id : Nat) (ops : List Oper) (draw : Bool) (env : Env) (σ : AS) : Option (Env × AS) :=
  if draw = true then
    if tails.contains (id + 1000000) = true then none else
    if tails.contains (id + 2000000) = true then mixA P cx call σ ops env else
    match quietA P cx call σ ops (ops.take (quietN P (tails.contains id) ops)) env [] [] with
    | some (env', ns, nh) => if (nh.isEmpty || cx.ro.isNone) = true then seqA P cx call ops (ops.drop (quietN P (tails.contains id) ops)) env' { hp := σ.hp ++ nh, st := σ.st ++ ns } else none
    | none => none
  else seqA P cx call ops ops env σ

abbrev St := Env × AS

def iterA (f : St → Option (AExit × St)) : Nat → St → Option (AExit × St)
  | 0, _ => none
  | n + 1, st => match f st with
    | some (.normal, st') => iterA f n st'
    | r => r

def execA (n : Nat) : Code → St → Option (AExit × St)
  | .skip, st => some (.normal, st)
  | .label _, st => some (.normal, st)
  | .region id ops draw, st => match regionA P cx tails call id ops.toList draw st.1 st.2 with
    | some st' => some (.normal, st')
    | none => none
  | .seq a b, st => match execA n a st with
    | some (.normal, st') => execA n b st'
    | r => r
  | .cond c x y, st => match ev st.1 c with
    | some (.bool true) => execA n x st
    | some (.bool false) => execA n y st
    | _ => none
  | .block id c, st => match execA n c st with
    | some (.exit i, st') => if i = id then some (.normal, st') else some (.exit i, st')
    | r => r
  | .loop c, st => iterA (execA n c) n st
  | .exit id, st => some (.exit id, st)
  | .ret, st => some (.ret, st)
  | _, _ => none

def resA (σ : AS) (env : Env) : List ResultVar → Option (List AV)
  | [] => some []
  | .tmp t :: rs => match resA σ env rs with
    | some vs => some (env.get t :: vs)
    | none => none
  | .cell a t :: rs => match loadA P σ t (env.get a), resA σ env rs with
    | some v, some vs => some (v :: vs)
    | _, _ => none
def oneA : List AV → AV
  | [v] => v
  | vs => .tup vs
end

section
variable (P : Program)

def frameA (fn : Func) (args : List AV) : Env := args ++ List.replicate (fn.ntmps - args.length) (.tup [])

def finishA (fl : Flags) (fn : Func) (h : Nat) : Option (AExit × St) → Option (AV × AS)
  | some (.exit _, _) => none
  | some (_, env, σ) => match resA P σ env fn.results.toList with
    | some vs =>
      if fl.keep = true then some (oneA vs, σ)
      else match (oneA vs).back h σ with
        | some v => if v.inb h = true then some (v, { σ with st := σ.st.take h }) else none
        | none => none
    | none => none
  | none => none

def cxOf (fl : Flags) (σ : AS) (ro : Option Nat) : Cx := { h := σ.st.length, ro := ro, esc := fl.esc }

/-- A call, n levels deep, loops of fewer than n rounds. -/
def callN (how : FuncId → Option How) : Nat → Caller
  | 0, _, _, _, _ => none
  | n + 1, f, args, σ, ro =>
    match how f with
    | none => none
    | some (.prim p) => p args σ ro
    | some (.body fl) =>
      match P.funcs[f]? with
      | none => none
      | some fn => match fn.body with
        | none => none
        | some c => finishA P fl fn σ.st.length (execA P (cxOf fl σ ro) fl.tails (callN how n) n c (frameA fn args, σ))
end
end Go.Abs
