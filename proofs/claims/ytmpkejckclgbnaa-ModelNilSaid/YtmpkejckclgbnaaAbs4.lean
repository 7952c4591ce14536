/- The abstract interpreter: code and calls. -/
import Derived.Test.YtmpkejckclgbnaaAbs3
import Derived.StillTail
set_option linter.unusedVariables false
set_option linter.unusedSimpArgs false
namespace Go.Abs

inductive AExit where
  | normal
  | exit (id : Nat)
  | ret
  deriving DecidableEq, Repr, Inhabited

structure Flags where
  esc : List Nat := []
  tails : List Nat := []
  keep : Bool := false
  deriving Inhabited

inductive How where
  | body (fl : Flags)
  | prim (p : List AV → AS → Option Nat → Option (AV × AS))

section
variable (P : Program) (cx : Cx) (tails : List Nat) (call : Caller)

def quietN (tail : Bool) (ops : List Oper) : Nat := (ops.takeWhile (quietOp P tail)).length

def regionA (id : Nat) (ops : List Oper) (draw : Bool) (env : Env) (σ : AS) : Option (Env × AS) :=
  if draw = true then
    if tails.contains (id + 1000000) = true then none else
    match quietA P cx call σ ops (ops.take (quietN P (tails.contains id) ops)) env [] [] with
    | some (env', ns, nh) => if (nh.isEmpty || cx.ro.isNone) = true then seqA P cx call ops (ops.drop (quietN P (tails.contains id) ops)) env' { hp := σ.hp ++ nh, st := σ.st ++ ns } else none
    | none => none
  else seqA P cx call ops ops env σ

abbrev St := Env × AS

def iterA (f : St → Option (AExit × St)) : Nat → St → Option (AExit × St)
  | 0, _ => none
  | n + 1, st => match f st with
    | some (.normal, st') => iterA f n st'
    | r => r

def execA (n : Nat) : Code → St → Option (AExit × St)
  | .skip, st => some (.normal, st)
  | .label _, st => some (.normal, st)
  | .region id ops draw, st => match regionA P cx tails call id ops.toList draw st.1 st.2 with
    | some st' => some (.normal, st')
    | none => none
  | .seq a b, st => match execA n a st with
    | some (.normal, st') => execA n b st'
    | r => r
  | .cond c x y, st => match ev st.1 c with
    | some (.bool true) => execA n x st
    | some (.bool false) => execA n y st
    | _ => none
  | .block id c, st => match execA n c st with
    | some (.exit i, st') => if i = id then some (.normal, st') else some (.exit i, st')
    | r => r
  | .loop c, st => iterA (execA n c) n st
  | .exit id, st => some (.exit id, st)
  | .ret, st => some (.ret, st)
  | _, _ => none

def resA (σ : AS) (env : Env) : List ResultVar → Option (List AV)
  | [] => some []
  | .tmp t :: rs => match resA σ env rs with
    | some vs => some (env.get t :: vs)
    | none => none
  | .cell a t :: rs => match loadA P σ t (env.get a), resA σ env rs with
    | some v, some vs => some (v :: vs)
    | _, _ => none
def oneA : List AV → AV
  | [v] => v
  | vs => .tup vs
end

section
variable (P : Program)

def frameA (fn : Func) (args : List AV) : Env := args ++ List.replicate (fn.ntmps - args.length) (.tup [])

def finishA (fl : Flags) (fn : Func) (h : Nat) : Option (AExit × St) → Option (AV × AS)
  | some (.exit _, _) => none
  | some (_, env, σ) => match resA P σ env fn.results.toList with
    | some vs =>
      if fl.keep = true then some (oneA vs, σ)
      else match (oneA vs).back h σ with
        | some v => if v.inb h = true then some (v, { σ with st := σ.st.take h }) else none
        | none => none
    | none => none
  | none => none

def cxOf (fl : Flags) (σ : AS) (ro : Option Nat) : Cx := { h := σ.st.length, ro := ro, esc := fl.esc }

/-- A call, n levels deep, loops of fewer than n rounds. -/
def callN (how : FuncId → Option How) : Nat → Caller
  | 0, _, _, _, _ => none
  | n + 1, f, args, σ, ro =>
    match how f with
    | none => none
    | some (.prim p) => p args σ ro
    | some (.body fl) =>
      match P.funcs[f]? with
      | none => none
      | some fn => match fn.body with
        | none => none
        | some c => finishA P fl fn σ.st.length (execA P (cxOf fl σ ro) fl.tails (callN how n) n c (frameA fn args, σ))
end
end Go.Abs
