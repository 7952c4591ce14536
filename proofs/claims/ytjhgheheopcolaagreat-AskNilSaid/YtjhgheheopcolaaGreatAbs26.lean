/- An operation's value hangs on what it looks at. -/
import Derived.Test.YtjhgheheopcolaaGreatAbs25
set_option linter.unusedVariables false
set_option linter.unusedSimpArgs false
namespace Go.Abs

/-- Two frames that agree where an operation looks. -/
def Agree (xs : List Operand) (e e' : Env) : Prop := ∀ x ∈ xs, ev e x = ev e' x

theorem evs_congr {e e' : Env} : ∀ {xs : List Operand}, Agree xs e e' → evs e xs = evs e' xs
  | [], _ => rfl
  | x :: xs, h => by
    simp only [evs]
    rw [h x (by simp), evs_congr (fun y hy => h y (by simp [hy]))]
theorem evps_congr {e e' : Env} : ∀ {xs : List (Nat × Operand)}, (∀ p ∈ xs, ev e p.2 = ev e' p.2) → evps e xs = evps e' xs
  | [], _ => rfl
  | (i, x) :: xs, h => by
    simp only [evps]
    rw [h (i, x) (by simp), evps_congr (fun y hy => h y (by simp [hy]))]

section
variable {P : Program} {cx : Cx} {call : Caller} {σ : AS}

theorem valA_congr {e e' : Env} {o : Oper} (h : Agree o.op.operands.toList e e') : valA P σ e o = valA P σ e' o ∧ optsA e o = optsA e' o := by
  unfold valA optsA
  constructor
  · cases hop : o.op <;> simp only [hop, Op.operands, Agree, Array.toList_append, List.mem_append, List.mem_toArray, List.mem_cons, List.not_mem_nil, or_false] at h <;> (try dsimp only)
    case move x => rw [h x rfl]
    case assign x => rw [h x rfl]
    case pick c a b => rw [h c (by simp), h a (by simp), h b (by simp)]
    case build t ps => rw [evps_congr (fun p hp => h p.2 (by simp only [List.mem_map]; exact ⟨p, hp, rfl⟩))]
    case load t x => rw [h x rfl]
    case nilCheck x => rw [h x rfl]
    case binOp op t x y t' => rw [h x (by simp), h y (by simp)]
    case unOp op t x => rw [h x rfl]
    case convert src dst x => rw [h x rfl]
    case makeInterface t x => rw [h x rfl]
    case makeFunc fn a b => rw [evs_congr (xs := a.toList) (fun x hx => h x (.inl hx)), evs_congr (xs := b.toList) (fun x hx => h x (.inr hx))]
    case slice t x lo hi mx =>
      rw [h x (by simp)]
      have e1 : lo.bind (ev e) = lo.bind (ev e') := by cases lo <;> simp_all
      have e2 : hi.bind (ev e) = hi.bind (ev e') := by cases hi <;> simp_all
      have e3 : mx.bind (ev e) = mx.bind (ev e') := by cases mx <;> simp_all
      rw [e1, e2, e3]
    case fieldAddr t x i => rw [h x rfl]
    case field t x i => rw [h x rfl]
    case indexAddr t x i => rw [h x (by simp), h i (by simp)]
    case index t x i => rw [h x (by simp), h i (by simp)]
    case lookup t m k ok => rw [h m (by simp), h k (by simp)]
    case extract t i => rw [h t rfl]
    case typeAssert x t a ok => rw [h x rfl]
    case call c =>
      obtain ⟨callee, args, ats⟩ := c
      cases callee <;> (try dsimp only)
      rw [evs_congr (xs := args.toList) (fun x hx => h x (by simp [Call.operands]; exact (by simpa using hx)))]
  · cases hop : o.op <;> simp only [hop, Op.operands, Agree, Array.toList_append, List.mem_append] at h <;> (try dsimp only)
    case slice t x lo hi mx =>
      have e1 : optsOk e lo = optsOk e' lo := by cases lo <;> simp_all [optsOk]
      have e2 : optsOk e hi = optsOk e' hi := by cases hi <;> simp_all [optsOk]
      have e3 : optsOk e mx = optsOk e' mx := by cases mx <;> simp_all [optsOk]
      rw [e1, e2, e3]

theorem newA_congr {e e' : Env} {o : Oper} (h : Agree o.op.operands.toList e e') (k kh : Nat) : newA P cx σ e k kh o = newA P cx σ e' k kh o := by
  unfold newA
  cases o.dst with
  | none => rfl
  | some d =>
    try dsimp only
    split
    · rfl
    · cases hop : o.op <;> simp only [hop, Op.operands, Agree, List.mem_cons, List.not_mem_nil, or_false] at h <;> (try dsimp only)
      case box t x => rw [h x rfl]
      case buildSlice t n ps => rw [evps_congr (fun p hp => h p.2 (by simp only [List.mem_map]; exact ⟨p, hp, rfl⟩))]
      case makeSlice t l c => rw [h l (by simp), h c (by simp)]
      case makeMap t r => cases r <;> rfl

theorem qstep_congr {ops : Array Oper} {e e' : Env} {o : Oper} (h : Agree o.op.operands.toList e e') (hg : wantedA ops.toList e o = wantedA ops.toList e' o) (k kh : Nat) :
    qstep P cx call σ ops.toList k kh e o = qstep P cx call σ ops.toList k kh e' o := by
  unfold qstep
  rw [hg, (valA_congr (P := P) (σ := σ) h).1, (valA_congr (P := P) (σ := σ) h).2, newA_congr (P := P) (cx := cx) (σ := σ) h]
  split
  · split
    · rfl
    · split
      · rfl
      · cases hop : o.op <;> (try dsimp only)
        rename_i c
        obtain ⟨callee, args, ats⟩ := c
        cases callee <;> (try dsimp only)
        rename_i f
        simp only [hop, Op.operands, Agree, Call.operands] at h
        rw [h f (by simp), evs_congr (xs := args.toList) (fun x hx => h x (by simp; exact .inr (by simpa using hx)))]
  · rfl

theorem env_put_ne {e : Env} {d t : Nat} {v : AV} (h : d ≠ t) : Env.get (e.set d v) t = Env.get e t := by
  simp only [Env.get, List.getD, List.getElem?_set_ne h]

theorem agree_put {ops : Array Oper} {o : Oper} {e : Env} {dst : Option Tmp} {v : AV} (h : ∀ d, dst = some d → d ∉ o.looksAt ops) : Agree o.op.operands.toList (putE e dst v) e := by
  cases dst with
  | none => intro x _; rfl
  | some d =>
    intro x hx
    have hd := h d rfl
    cases x with
    | tmp t =>
      have hne : d ≠ t := by
        intro hh
        subst hh
        apply hd
        unfold Oper.looksAt
        rw [List.mem_append]
        left
        rw [List.mem_filterMap]
        exact ⟨.tmp d, hx, rfl⟩
      simp only [ev, putE, env_put_ne hne]
    | _ => rfl

theorem wanted_put' {ops : Array Oper} {o : Oper} {e : Env} {dst : Option Tmp} {v : AV} (h : ∀ d, dst = some d → d ∉ o.looksAt ops) : wantedA ops.toList (putE e dst v) o = wantedA ops.toList e o := by
  cases dst with
  | none => rfl
  | some d =>
    have hd := h d rfl
    unfold wantedA
    cases hg : o.guard with
    | none => rfl
    | some p =>
      obtain ⟨j, want⟩ := p
      simp only [yieldedA]
      cases hb : (ops.toList[j]?).bind (·.dst) with
      | none => rfl
      | some t =>
        have hne : d ≠ t := by
          intro hh
          subst hh
          apply hd
          unfold Oper.looksAt
          rw [List.mem_append, hg]
          right
          simp only [Array.getElem?_toList] at hb
          simp [hb]
        simp only [putE, env_put_ne hne]

theorem putE_comm {e : Env} {x y : Option Tmp} {v u : AV} (h : ∀ d, x = some d → y ≠ some d) : putE (putE e x v) y u = putE (putE e y u) x v := by
  cases x with
  | none => rfl
  | some d => cases y with
    | none => rfl
    | some t =>
      have hne : d ≠ t := fun hh => h d rfl (hh ▸ rfl)
      simp only [putE]
      exact List.set_comm _ _ hne

theorem AS.set_comm {σ : AS} {L L' : Loc} {a b : AObj} (h : L ≠ L') : (σ.set L a).set L' b = (σ.set L' b).set L a := by
  cases L <;> cases L' <;> simp only [AS.set]
  · rename_i i j; rw [List.set_comm _ _ (by intro e; exact h (by rw [e]))]
  · rename_i i j; rw [List.set_comm _ _ (by intro e; exact h (by rw [e]))]
end
end Go.Abs
