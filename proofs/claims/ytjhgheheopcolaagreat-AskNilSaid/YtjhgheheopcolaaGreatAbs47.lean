/- Equations by which 'simp' runs a text without looking ahead. -/
import Derived.Test.YtjhgheheopcolaaGreatAbs46
set_option linter.unusedVariables false
set_option linter.unusedSimpArgs false
namespace Go.Abs
section
variable (P : Program) (cx : Cx) (tails : List Nat) (call : Caller)
def seqVK (all os : List Oper) (env : Env) (σ : AS) (d : Option Tmp) (v : AV) : Option (Env × AS) := seqA P cx call all os (putE env d v) σ
def seqEK (all os : List Oper) (env : Env) (d : Option Tmp) (r : AV × AS) : Option (Env × AS) := seqA P cx call all os (putE env d r.1) r.2
def quietK (σ : AS) (all os : List Oper) (env : Env) (o : Oper) (ns nh : List AObj) : AV × Option AObj → Option (Env × List AObj × List AObj)
  | (v, none) => quietA P cx call σ all os (putE env o.dst v) ns nh
  | (v, some ob) => if escNew cx o = true then quietA P cx call σ all os (putE env o.dst v) ns (nh ++ [ob]) else quietA P cx call σ all os (putE env o.dst v) (ns ++ [ob]) nh
def tailK (ops os : List Oper) (σ : AS) (r : Env × List AObj × List AObj) : Option (Env × AS) :=
  if (r.2.2.isEmpty || cx.ro.isNone) = true then seqA P cx call ops os r.1 { hp := σ.hp ++ r.2.2, st := σ.st ++ r.2.1 } else none
noncomputable def seqK (b : Code) : AExit × St → Option (AExit × St)
  | (.normal, st) => execW P cx tails call b st
  | r => some r
noncomputable def condK (x y : Code) (st : St) : AV → Option (AExit × St)
  | .bool true => execW P cx tails call x st
  | .bool false => execW P cx tails call y st
  | _ => none
def blockK (id : Nat) : AExit × St → Option (AExit × St)
  | (.exit i, st) => if i = id then some (.normal, st) else some (.exit i, st)
  | r => some r
def regK (st : St) : Option (AExit × St) := some (.normal, st)
def backK (h : Nat) (σ : AS) (v : AV) : Option (AV × AS) := if v.inb h = true then some (v, { σ with st := σ.st.take h }) else none
def retK (fl : Flags) (h : Nat) (σ : AS) (vs : List AV) : Option (AV × AS) := if fl.keep = true then some (oneA vs, σ) else ((oneA vs).back h σ).bind (backK h σ)
def finK (fl : Flags) (fn : Func) (h : Nat) : AExit × St → Option (AV × AS)
  | (.exit _, _) => none
  | (_, env, σ) => (resA P σ env fn.results.toList).bind (retK fl h σ)
end
section
variable {P : Program} {cx : Cx} {tails : List Nat} {call : Caller} {all os : List Oper} {o : Oper} {env : Env} {σ : AS} {ns nh : List AObj} {st : St} {a b x y : Code} {v : AV} {id i h : Nat}
theorem seqA_nil : seqA P cx call all [] env σ = some (env, σ) := rfl
theorem seqA_cons : seqA P cx call all (o :: os) env σ = if wantedA all env o = true then (if isVal P o = true then (if optsA env o = true then (valA P σ env o).bind (seqVK P cx call all os env σ o.dst) else none) else (effA P cx call σ env o).bind (seqEK P cx call all os env o.dst)) else seqA P cx call all os (putE env o.dst (.tup [])) σ := by
  simp only [seqA]
  split
  · split
    · split
      · cases valA P σ env o <;> rfl
      · rfl
    · cases effA P cx call σ env o <;> rfl
  · rfl
theorem seqVK_eq {d : Option Tmp} : seqVK P cx call all os env σ d v = seqA P cx call all os (putE env d v) σ := rfl
theorem seqEK_eq {d : Option Tmp} : seqEK P cx call all os env d (v, σ) = seqA P cx call all os (putE env d v) σ := rfl
theorem quietA_nil : quietA P cx call σ all [] env ns nh = some (env, ns, nh) := rfl
theorem quietA_cons : quietA P cx call σ all (o :: os) env ns nh = (qstep P cx call σ all ns.length nh.length env o).bind (quietK P cx call σ all os env o ns nh) := by
  simp only [quietA]
  cases qstep P cx call σ all ns.length nh.length env o with
  | none => rfl
  | some r => obtain ⟨v, ob⟩ := r; cases ob <;> rfl
theorem quietK_none : quietK P cx call σ all os env o ns nh (v, none) = quietA P cx call σ all os (putE env o.dst v) ns nh := rfl
theorem quietK_some {ob : AObj} : quietK P cx call σ all os env o ns nh (v, some ob) = if escNew cx o = true then quietA P cx call σ all os (putE env o.dst v) ns (nh ++ [ob]) else quietA P cx call σ all os (putE env o.dst v) (ns ++ [ob]) nh := rfl
theorem regionA_plain : regionA P cx tails call id os false env σ = seqA P cx call os os env σ := by simp [regionA]
theorem regionA_quiet (h1 : tails.contains (id + 1000000) = false) (h2 : tails.contains (id + 2000000) = false) : regionA P cx tails call id os true env σ = (quietA P cx call σ os (os.take (quietN P (tails.contains id) os)) env [] []).bind (tailK P cx call os (os.drop (quietN P (tails.contains id) os)) σ) := by
  simp only [regionA, h1, h2, if_true, Bool.false_eq_true, if_false]
  cases quietA P cx call σ os (os.take (quietN P (tails.contains id) os)) env [] [] with
  | none => rfl
  | some r => rfl
theorem regionA_quiet0 : regionA P cx [] call id os true env σ = (quietA P cx call σ os (os.take (quietN P false os)) env [] []).bind (tailK P cx call os (os.drop (quietN P false os)) σ) := regionA_quiet rfl rfl
theorem tailK_eq {ops : List Oper} : tailK P cx call ops os σ (env, ns, nh) = if (nh.isEmpty || cx.ro.isNone) = true then seqA P cx call ops os env { hp := σ.hp ++ nh, st := σ.st ++ ns } else none := rfl
theorem execW_seq_eq : execW P cx tails call (.seq a b) st = (execW P cx tails call a st).bind (seqK P cx tails call b) := by
  simp only [execW]
  cases execW P cx tails call a st with
  | none => rfl
  | some r => obtain ⟨e, s⟩ := r; cases e <;> rfl
theorem seqK_normal : seqK P cx tails call b (.normal, st) = execW P cx tails call b st := rfl
theorem seqK_ret : seqK P cx tails call b (.ret, st) = some (.ret, st) := rfl
theorem seqK_exit : seqK P cx tails call b (.exit i, st) = some (.exit i, st) := rfl
theorem execW_cond_eq {c : Operand} : execW P cx tails call (.cond c x y) st = (ev st.1 c).bind (condK P cx tails call x y st) := by
  simp only [execW]
  cases ev st.1 c with
  | none => rfl
  | some v => cases v <;> first | rfl | (rename_i b; cases b <;> rfl)
theorem condK_true : condK P cx tails call x y st (.bool true) = execW P cx tails call x st := rfl
theorem condK_false : condK P cx tails call x y st (.bool false) = execW P cx tails call y st := rfl
theorem condK_if {b : Bool} : condK P cx tails call x y st (.bool b) = if b = true then execW P cx tails call x st else execW P cx tails call y st := by cases b <;> rfl
theorem execW_block_eq : execW P cx tails call (.block id a) st = (execW P cx tails call a st).bind (blockK id) := by
  simp only [execW]
  cases execW P cx tails call a st with
  | none => rfl
  | some r => obtain ⟨e, s⟩ := r; cases e <;> rfl
theorem blockK_exit : blockK id (.exit i, st) = if i = id then some (.normal, st) else some (.exit i, st) := rfl
theorem blockK_normal : blockK id (.normal, st) = some (.normal, st) := rfl
theorem blockK_ret : blockK id (.ret, st) = some (.ret, st) := rfl
theorem execW_region_eq {ops : Array Oper} {draw : Bool} : execW P cx tails call (.region id ops draw) st = (regionA P cx tails call id ops.toList draw st.1 st.2).bind regK := by
  simp only [execW]
  cases regionA P cx tails call id ops.toList draw st.1 st.2 <;> rfl
theorem regK_eq : regK st = some (.normal, st) := rfl
theorem execW_skip : execW P cx tails call .skip st = some (.normal, st) := rfl
theorem execW_label {l : Nat} : execW P cx tails call (.label l) st = some (.normal, st) := rfl
theorem execW_exit : execW P cx tails call (.exit i) st = some (.exit i, st) := rfl
theorem execW_ret : execW P cx tails call .ret st = some (.ret, st) := rfl
variable {fl : Flags} {fn : Func} {vs : List AV}
theorem finishA_eq {r : Option (AExit × St)} : finishA P fl fn h r = r.bind (finK P fl fn h) := by
  cases r with
  | none => rfl
  | some r =>
    obtain ⟨e, en, s⟩ := r
    cases e with
    | exit i => rfl
    | normal =>
      simp only [finishA, finK, Option.bind_some]
      cases resA P s en fn.results.toList with
      | none => rfl
      | some vs =>
        simp only [Option.bind_some, retK]
        split
        · rfl
        · cases (oneA vs).back h s <;> rfl
    | ret =>
      simp only [finishA, finK, Option.bind_some]
      cases resA P s en fn.results.toList with
      | none => rfl
      | some vs =>
        simp only [Option.bind_some, retK]
        split
        · rfl
        · cases (oneA vs).back h s <;> rfl
theorem finK_ret : finK P fl fn h (.ret, (env, σ)) = (resA P σ env fn.results.toList).bind (retK fl h σ) := rfl
theorem finK_normal : finK P fl fn h (.normal, (env, σ)) = (resA P σ env fn.results.toList).bind (retK fl h σ) := rfl
theorem retK_eq (hk : fl.keep = false) : retK fl h σ vs = ((oneA vs).back h σ).bind (backK h σ) := by simp [retK, hk]
theorem backK_eq (hv : v.inb h = true) : backK h σ v = some (v, { σ with st := σ.st.take h }) := by simp [backK, hv]
end
section
variable {k : IntKind} {n : Int} {x : ByteArray} {b : Bool} {cs : List AV} {L : Loc} {o v i : Nat} {f : Fn} {y z : List AV} {t : TypeId} {w : AV}
@[simp] theorem isRow_bool : isRow (.bool b) = false := rfl
@[simp] theorem isRow_int : isRow (.int k n) = false := rfl
@[simp] theorem isRow_str : isRow (.str x) = false := rfl
@[simp] theorem isRow_nilp : isRow .nilp = false := rfl
@[simp] theorem isRow_ptr : isRow (.ptr L o) = false := rfl
@[simp] theorem isRow_rptr : isRow (.rptr cs o) = false := rfl
@[simp] theorem isRow_eptr : isRow (.eptr L v i o) = false := rfl
@[simp] theorem isRow_nils : isRow .nils = false := rfl
@[simp] theorem isRow_sl : isRow (.sl b o cs) = false := rfl
@[simp] theorem isRow_row : isRow (.row L v i o) = true := rfl
@[simp] theorem isRow_nilm : isRow .nilm = false := rfl
@[simp] theorem isRow_map : isRow (.map L) = false := rfl
@[simp] theorem isRow_fn : isRow (.fn f y z) = false := rfl
@[simp] theorem isRow_nilf : isRow .nilf = false := rfl
@[simp] theorem isRow_iface : isRow (.iface t w) = false := rfl
@[simp] theorem isRow_nili : isRow .nili = false := rfl
@[simp] theorem isRow_agg : isRow (.agg cs) = false := rfl
@[simp] theorem isRow_tup : isRow (.tup cs) = false := rfl
end
end Go.Abs
