/- A law's row. -/
import Derived.Test.YtjhgheheopcolaaGreatAbs34
set_option linter.unusedVariables false
set_option linter.unusedSimpArgs false
namespace Go.Abs
open Go.ChangeShapes Go.WideShapes Go.ChangeAt Go.RowKit

def hasTs (P : Program) (k : Nat) : List TypeId → List AV → Prop
  | [], cs => cs = []
  | t :: ts, cs => ∃ c cs', cs = c :: cs' ∧ hasT P k t c ∧ hasTs P k ts cs'

section
variable {H : Type} {enc : TypeId × Value → H} {P : Program} {W : World} {base : Nat} {spare : Nat → Bool} {held : Bool}

theorem args_read {k : Nat} {r : Reach} {b : Nat} : ∀ (ts : List TypeId) (vs : List Value) (ds : List (DataW H)) (ps : List MemPlace), (ts.all fun t => plainT P k t) = true →
    (∀ (j : Nat) t v, ts[j]? = some t → vs[j]? = some v → Value.okWide P W r b t v) → DataW.TrodAll enc P W base spare held ts vs ds ps → ∃ cs, VRs rho0 W cs vs ∧ hasTs P k ts cs ∧ ds.length = ts.length
  | [], vs, ds, ps, _, _, h => by
    obtain ⟨rfl, rfl, rfl⟩ := trodAll_nil h
    exact ⟨[], VRs.nil, rfl, rfl⟩
  | t :: ts, vs, ds, ps, hp, hok, h => by
    obtain ⟨v, vs', d, ds', p, q, rfl, rfl, rfl, h1, h2⟩ := trodAll_cons h
    simp only [List.all_cons, Bool.and_eq_true] at hp
    obtain ⟨c, c1, c2⟩ := arg_reads hp.1 (hok 0 t v rfl rfl) h1
    obtain ⟨cs, e1, e2, e3⟩ := args_read ts vs' ds' q hp.2 (fun j t v hj hv => hok (j + 1) t v (by simpa using hj) (by simpa using hv)) h2
    exact ⟨c :: cs, VRs.cons c1 e1, ⟨c, cs, rfl, c2, e2⟩, by simp [e3]⟩

theorem args_stay (hl : laidOutB P = true) {W' : World} (hb : Below W.heap.size W W') : ∀ (ts : List TypeId) (vs : List Value) (ds : List (DataW H)) (ps : List MemPlace), (ts.all fun t => P.readableRec t && decide (t < P.types.size)) = true →
    DataW.TrodAll enc P W 0 (fun _ => true) true ts vs ds ps → (∀ x ∈ ps, x.block < W.heap.size) → DataW.TrodAll enc P W' 0 (fun b => decide (b < W.heap.size)) true ts vs ds ps
  | [], vs, ds, ps, _, h, _ => by
    obtain ⟨rfl, rfl, rfl⟩ := trodAll_nil h
    exact rfl
  | t :: ts, vs, ds, ps, hp, h, hlt => by
    obtain ⟨v, vs', d, ds', p, q, rfl, rfl, rfl, h1, h2⟩ := trodAll_cons h
    simp only [List.all_cons, Bool.and_eq_true, decide_eq_true_eq] at hp
    exact ⟨p, q, Below.trod hl hp.1.1 hp.1.2 h1 hb (fun x hx => hlt x (by simp [hx])), args_stay hl hb ts vs' ds' q hp.2 h2 (fun x hx => hlt x (by simp [hx])), rfl⟩
end

/-- What a row asks of its function's parameters and result. -/
def shapeOk (P : Program) (k : Nat) (fn : Func) : Bool :=
  (fn.params.toList.all fun t => plainT P k t) && (fn.params.toList.all fun t => P.readableRec t && decide (t < P.types.size)) &&
    match fn.resultTypes.toList with
    | [t] => (match P.underlying t with | some .bool => true | _ => false)
    | _ => false

theorem calls_of_abs {P : Program} {how : FuncId → Option How} (hm : P.follows .mixedOrders = true) (hw : HowOk P how) {n : Nat} {f : FuncId} {cs : List AV} {σ' : AS} {args : Array Value} {W : World}
    (hv : VRs rho0 W cs args.toList) (h : callN P how n f cs ⟨[], []⟩ none = some (.bool true, σ')) : Calls P f args W fun e w' => e = .returned (.bool true) ∧ Below W.heap.size W w' := by
  have := (callN_ok hm hw n).snd f cs ⟨[], []⟩ none _ _ h rho0 W args.toList (SR.start W) hv
  refine this.mono fun e w' ⟨ρ', u, he, x, _, hu⟩ => ?_
  cases hu
  exact ⟨he, x.os, x.tape, x.output, x.size, fun b hb => (x.free b hb (free0 b)).2⟩

theorem law_post {H : Type} {enc : TypeId × Value → H} {P : Program} {fn : Func} {s : ChangeSpec} {k : Nat} {W W' : World} {args : Array Value} {ds gs : List (DataW H)} {before : List MemPlace}
    (hl : laidOutB P = true) (hsh : shapeOk P k fn = true) (hvars : s.vars = [])
    (hspec : ∀ (H : Type) (ds : List (DataW H)), ds.length = fn.params.size → s.fn H ds = { results := [.lit (.bool true)], args := ds })
    (hW : DataW.Whole enc P fn.params.toList s.vars false W args.toList ds gs before) (hlen : ds.length = fn.params.size) (hb : Below W.heap.size W W') :
    s.post enc P fn false true false false W args (.bool true) W' := by
  have hlt := hW.lt
  have hW' := hW
  obtain ⟨p, q, hA, hV, rfl, hfz, hnd⟩ := hW
  rw [hvars] at hV
  obtain ⟨rfl, rfl⟩ := trodVars_none hV
  simp only [shapeOk, Bool.and_eq_true] at hsh
  obtain ⟨⟨_, h2⟩, h3⟩ := hsh
  simp only [List.append_nil] at hW' hlt ⊢
  have hfn := hspec H ds hlen
  refine ⟨ds, [], p, [], p, [], hW', ?_, ?_, ?_, hb.frame _, fun h => by cases h⟩
  · simp only [List.append_nil]
    rw [hfn]
    cases hr : fn.resultTypes.toList with
    | nil => rw [hr] at h3; cases h3
    | cons t ts =>
      cases ts with
      | cons _ _ => rw [hr] at h3; cases h3
      | nil =>
        rw [hr] at h3
        have hsz : fn.resultTypes.size = 1 := by rw [← Array.length_toList, hr]; rfl
        rw [hsz]
        have hu : P.underlying t = some .bool := by
          simp only at h3
          split at h3
          · assumption
          · cases h3
        exact trodAll_mk1 (shut_bool hu true)
  · simp only [List.append_nil]
    rw [hfn]
    exact args_stay hl hb _ _ _ _ h2 hA hlt
  · simp only [List.append_nil]
    rw [hfn, hvars]
    exact rfl

theorem law_lifted {C : Checked} {how : FuncId → Option How} (hm : C.prog.follows .mixedOrders = true) (hw : HowOk C.prog how) (k : Nat) {f : FuncId} {fn : Func} {s : ChangeSpec} (os : Os) (started : os.Started) {H : Type} {enc : TypeId × Value → H}
    (own : ownKnob C.prog.godebug = none) (noInit : C.prog.inits.idxOf? f = none) (hfn : C.prog.funcs[f]? = some fn) (hl : laidOutB C.prog = true) (hsh : shapeOk C.prog k fn = true) (hvars : s.vars = [])
    (hspec : ∀ (H : Type) (ds : List (DataW H)), ds.length = fn.params.size → s.fn H ds = { results := [.lit (.bool true)], args := ds })
    (witness : ∃ (w : World) (tape : Tape) (i : Input), w.os = os ∧ (w.forCall tape i).Shaped C.prog ∧ i.vars = [] ∧ Input.okWide C.prog (w.forCall tape i) .any w.heap.size f i ∧
      s.pre6 enc C.prog fn [] false (w.forCall tape i).memory i.args ∧ (({} : Assume)).holds C.prog (lone (Frame.enter C.prog f i.args .normal) [] (w.forCall tape i)))
    (hrun : ∀ cs, hasTs C.prog k fn.params.toList cs → ∃ n σ', callN C.prog how n f cs ⟨[], []⟩ none = some (.bool true, σ')) :
    ReturnsInHanded {} C os f .any (s.pre6 enc C.prog fn [] false) (s.post enc C.prog fn false true false false) := by
  refine returnsInHanded_of_change (C := C) own started noInit hfn witness ?_
  intro W base args ds gs before hval hW _ _
  have hW' := hW
  obtain ⟨p, q, hA, hV, hpq, _⟩ := hW
  have hsh' := hsh
  simp only [shapeOk, Bool.and_eq_true] at hsh
  obtain ⟨cs, c1, c2, c3⟩ := args_read fn.params.toList args.toList ds p hsh.1.1 (fun j t v hj hv => hval j t v (by simpa using hj) (by simpa using hv)) hA
  obtain ⟨n, σ', hr⟩ := hrun cs c2
  exact (calls_of_abs hm hw c1 hr).mono fun e W' ⟨he, hb⟩ => ⟨_, he, law_post hl hsh' hvars hspec hW' (by simpa using c3) hb⟩
end Go.Abs
