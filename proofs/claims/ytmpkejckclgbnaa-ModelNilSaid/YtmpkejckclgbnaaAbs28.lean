/- Regions that draw their order. -/
import Derived.Test.YtmpkejckclgbnaaAbs27
set_option linter.unusedVariables false
set_option linter.unusedSimpArgs false
namespace Go.Abs
section
variable {P : Program} {cx : Cx} {call : Caller} {σ : AS} {ops : Array Oper}

def newSt (cx : Cx) (o : Oper) : Bool := isNew o && !escNew cx o
def newHp (cx : Cx) (o : Oper) : Bool := isNew o && escNew cx o
def cnt (p : Oper → Bool) (l : List Oper) (i : Nat) : Nat := ((l.take i).filter p).length

theorem cnt_succ {p : Oper → Bool} {l : List Oper} {i : Nat} {o : Oper} (h : l[i]? = some o) : cnt p l (i + 1) = cnt p l i + if p o = true then 1 else 0 := by
  unfold cnt
  rw [List.take_add_one, h, List.filter_append, List.length_append]
  simp only [Option.toList_some, List.filter_cons, List.filter_nil]
  split <;> simp
theorem cnt_mono {p : Oper → Bool} {l : List Oper} {i j : Nat} (h : i ≤ j) : cnt p l i ≤ cnt p l j := by
  unfold cnt
  have : (l.take i) <+: (l.take j) := List.take_prefix_take_left h
  exact (this.sublist.filter p).length_le

def slot (cx : Cx) (σ : AS) (ops : Array Oper) (i : Nat) (o : Oper) : Loc := newLoc σ (escNew cx o) (cnt (newSt cx) ops.toList i) (cnt (newHp cx) ops.toList i)

theorem slot_ne {i j : Nat} {oi oj : Oper} (hi : ops[i]? = some oi) (hj : ops[j]? = some oj) (ni : isNew oi = true) (nj : isNew oj = true) (h : i ≠ j) : slot cx σ ops i oi ≠ slot cx σ ops j oj := by
  have key : ∀ (i j : Nat) (oi oj : Oper), ops[i]? = some oi → ops[j]? = some oj → isNew oi = true → isNew oj = true → i < j → slot cx σ ops i oi ≠ slot cx σ ops j oj := by
    intro i j oi oj hi hj ni nj hlt
    have hi' : ops.toList[i]? = some oi := by simpa using hi
    unfold slot newLoc
    cases he : escNew cx oi <;> cases hf : escNew cx oj <;> simp only [Bool.false_eq_true, if_false, if_true, ne_eq, reduceCtorEq, not_false_eq_true, Loc.st.injEq, Loc.hp.injEq]
    · have h1 := cnt_succ (p := newSt cx) hi'
      have h2 := cnt_mono (p := newSt cx) (l := ops.toList) (i := i + 1) (j := j) hlt
      have : newSt cx oi = true := by simp [newSt, ni, he]
      rw [this] at h1
      simp only [if_true] at h1
      omega
    · have h1 := cnt_succ (p := newHp cx) hi'
      have h2 := cnt_mono (p := newHp cx) (l := ops.toList) (i := i + 1) (j := j) hlt
      have : newHp cx oi = true := by simp [newHp, ni, he]
      rw [this] at h1
      simp only [if_true] at h1
      omega
  rcases Nat.lt_or_gt_of_ne h with h | h
  · exact key i j oi oj hi hj ni nj h
  · exact (key j i oj oi hj hi nj ni h).symm

def qs (P : Program) (cx : Cx) (call : Caller) (σ : AS) (ops : Array Oper) (i : Nat) (s : Env × AS) : Option (Env × AS) :=
  match ops[i]? with
  | none => none
  | some o => match qstep P cx call σ ops.toList (cnt (newSt cx) ops.toList i) (cnt (newHp cx) ops.toList i) s.1 o with
    | some (v, none) => some (putE s.1 o.dst v, s.2)
    | some (v, some ob) => match s.2.get (slot cx σ ops i o) with
      | some .dead => some (putE s.1 o.dst v, s.2.set (slot cx σ ops i o) ob)
      | _ => none
    | none => none

theorem qstep_new {k kh : Nat} {env : Env} {o : Oper} {v : AV} {ob : AObj} {all : List Oper} (h : qstep P cx call σ all k kh env o = some (v, some ob)) : isNew o = true := by
  unfold qstep at h
  split at h
  · split at h
    · split at h
      · split at h <;> cases h
      · cases h
    · split at h
      · assumption
      · split at h
        · split at h
          · split at h
            · split at h
              · split at h
                · split at h <;> cases h
                · cases h
              · cases h
            · cases h
          · cases h
        · cases h
  · split at h
    · assumption
    · cases h

theorem qs_comm (i j : Nat) (oi oj : Oper) (hi : ops[i]? = some oi) (hj : ops[j]? = some oj) (hij : i ≠ j) (hap : oi.apart ops oj = true) (s s1 s2 : Env × AS) (h1 : qs P cx call σ ops i s = some s1) (h2 : qs P cx call σ ops j s1 = some s2) :
    ∃ s1', qs P cx call σ ops j s = some s1' ∧ qs P cx call σ ops i s1' = some s2 := by
  obtain ⟨a1, a2, a3⟩ := Oper.apart_spec hap
  unfold qs at h1 h2 ⊢
  rw [hi] at h1
  rw [hj] at h2
  simp only [hi, hj] at h1 h2 ⊢
  -- what j makes does not hang on i
  have hqj : ∀ v, qstep P cx call σ ops.toList (cnt (newSt cx) ops.toList j) (cnt (newHp cx) ops.toList j) (putE s.1 oi.dst v) oj = qstep P cx call σ ops.toList (cnt (newSt cx) ops.toList j) (cnt (newHp cx) ops.toList j) s.1 oj :=
    fun v => qstep_congr (agree_put (ops := ops) a1) (wanted_put' a1) _ _
  have hqi : ∀ v, qstep P cx call σ ops.toList (cnt (newSt cx) ops.toList i) (cnt (newHp cx) ops.toList i) (putE s.1 oj.dst v) oi = qstep P cx call σ ops.toList (cnt (newSt cx) ops.toList i) (cnt (newHp cx) ops.toList i) s.1 oi :=
    fun v => qstep_congr (agree_put (ops := ops) a3) (wanted_put' a3) _ _
  split at h1
  · rename_i vi hvi
    cases h1
    simp only at h2
    rw [hqj] at h2
    split at h2
    · rename_i vj hvj
      cases h2
      refine ⟨(putE s.1 oj.dst vj, s.2), by first | rfl | rw [hvj], ?_⟩
      simp only
      rw [hqi, hvi]
      rw [putE_comm a2]
    · rename_i vj obj hvj
      split at h2
      · rename_i hd
        cases h2
        refine ⟨(putE s.1 oj.dst vj, s.2.set (slot cx σ ops j oj) obj), by first | rfl | (rw [hd]; done) | (rw [hd]) | (rw [hvj]; simp only; rw [hd]), ?_⟩
        simp only
        rw [hqi, hvi]
        rw [putE_comm a2]
      · cases h2
    · cases h2
  · rename_i vi obi hvi
    have ni := qstep_new hvi
    split at h1
    · rename_i hdi
      cases h1
      simp only at h2
      rw [hqj] at h2
      split at h2
      · rename_i vj hvj
        cases h2
        refine ⟨(putE s.1 oj.dst vj, s.2), by first | rfl | rw [hvj], ?_⟩
        simp only
        rw [hqi, hvi]
        simp only
        rw [hdi]
        rw [putE_comm a2]
      · rename_i vj obj hvj
        have nj := qstep_new hvj
        have hne := slot_ne (cx := cx) (σ := σ) hi hj ni nj hij
        split at h2
        · rename_i hd
          cases h2
          rw [AS.get_set, if_neg hne.symm] at hd
          refine ⟨(putE s.1 oj.dst vj, s.2.set (slot cx σ ops j oj) obj), by first | rfl | (rw [hd]; done) | (rw [hd]) | (rw [hvj]; simp only; rw [hd]), ?_⟩
          simp only
          rw [hqi, hvi]
          simp only
          rw [AS.get_set, if_neg hne, hdi]
          simp only
          rw [putE_comm a2, AS.set_comm hne]
        · cases h2
      · cases h2
    · cases h1
  · cases h1

/-- The lexical run. -/
theorem quietA_runS : ∀ (os : List Oper) (i m : Nat) (env env' : Env) (ns ns' nh nh' : List AObj), (∀ k, k < m → os[k]? = ops.toList[i + k]?) → os.length = m → i + m ≤ ops.size →
    ns.length = cnt (newSt cx) ops.toList i → nh.length = cnt (newHp cx) ops.toList i → quietA P cx call σ ops.toList os env ns nh = some (env', ns', nh') →
    ns'.length = cnt (newSt cx) ops.toList (i + m) ∧ nh'.length = cnt (newHp cx) ops.toList (i + m) ∧
    runS (qs P cx call σ ops) m i (env, { hp := σ.hp ++ nh ++ List.replicate (cnt (newHp cx) ops.toList (i + m) - cnt (newHp cx) ops.toList i) .dead, st := σ.st ++ ns ++ List.replicate (cnt (newSt cx) ops.toList (i + m) - cnt (newSt cx) ops.toList i) .dead }) =
      some (env', { hp := σ.hp ++ nh', st := σ.st ++ ns' })
  | [], i, m, env, env', ns, ns', nh, nh', hos, hl, hle, h1, h2, h => by
    have : m = 0 := by simpa using hl.symm
    subst this
    simp only [quietA, Option.some.injEq, Prod.mk.injEq] at h
    obtain ⟨rfl, rfl, rfl⟩ := h
    refine ⟨h1, h2, ?_⟩
    simp [runS]
  | o :: os, i, m, env, env', ns, ns', nh, nh', hos, hl, hle, h1, h2, h => by
    obtain ⟨m, rfl⟩ : ∃ k, m = k + 1 := ⟨m - 1, by simp at hl; omega⟩
    have h0 : ops.toList[i]? = some o := by have := hos 0 (by omega); simpa using this.symm
    have h0' : ops[i]? = some o := by simpa using h0
    have hos' : ∀ k, k < m → os[k]? = ops.toList[i + 1 + k]? := fun k hk => by
      have := hos (k + 1) (by omega)
      simpa [Nat.add_assoc, Nat.add_comm 1 k] using this
    have e1 : i + (m + 1) = i + 1 + m := by omega
    have c1 := cnt_succ (p := newSt cx) h0
    have c2 := cnt_succ (p := newHp cx) h0
    have m1 := cnt_mono (p := newSt cx) (l := ops.toList) (i := i + 1) (j := i + 1 + m) (by omega)
    have m2 := cnt_mono (p := newHp cx) (l := ops.toList) (i := i + 1) (j := i + 1 + m) (by omega)
    simp only [quietA] at h
    rw [e1]
    simp only [runS, qs, h0']
    rw [h1, h2] at h
    split at h
    · rename_i v hv
      have hnn : isNew o = false := by
        cases hn : isNew o with
        | false => rfl
        | true =>
          exfalso
          unfold qstep at hv
          rw [hn] at hv
          split at hv
          · split at hv
            · rename_i hval
              unfold isNew isVal at *
              cases hop : o.op <;> simp_all
            · simp only [if_true] at hv
              split at hv <;> cases hv
          · simp only [if_true] at hv
            cases hv
      have p1 : newSt cx o = false := by simp [newSt, hnn]
      have p2 : newHp cx o = false := by simp [newHp, hnn]
      rw [p1] at c1
      rw [p2] at c2
      simp only [Bool.false_eq_true, if_false, Nat.add_zero] at c1 c2
      have := quietA_runS os (i + 1) m (putE env o.dst v) env' ns ns' nh nh' hos' (by simpa using hl) (by omega) (by rw [h1, c1]) (by rw [h2, c2]) h
      rw [hv]
      simp only
      rw [c1, c2] at this
      exact this
    · rename_i v ob hv
      have hnn := qstep_new hv
      rw [hv]
      simp only
      split at h
      · rename_i hesc
        have p1 : newSt cx o = false := by simp [newSt, hesc]
        have p2 : newHp cx o = true := by simp [newHp, hnn, hesc]
        rw [p1] at c1
        rw [p2] at c2
        simp only [Bool.false_eq_true, if_false, Nat.add_zero, if_true] at c1 c2
        have hslot : slot cx σ ops i o = .hp (σ.hp.length + nh.length) := by simp [slot, newLoc, hesc, h2]
        have := quietA_runS os (i + 1) m (putE env o.dst v) env' ns ns' (nh ++ [ob]) nh' hos' (by simpa using hl) (by omega) (by rw [h1, c1]) (by simp [h2, c2]) h
        obtain ⟨t1, t2, t3⟩ := this
        refine ⟨t1, t2, ?_⟩
        have hd : cnt (newHp cx) ops.toList (i + 1 + m) - cnt (newHp cx) ops.toList i = (cnt (newHp cx) ops.toList (i + 1 + m) - cnt (newHp cx) ops.toList (i + 1)) + 1 := by omega
        rw [hd, List.replicate_succ, hslot]
        have hg : ({ hp := σ.hp ++ nh ++ AObj.dead :: List.replicate (cnt (newHp cx) ops.toList (i + 1 + m) - cnt (newHp cx) ops.toList (i + 1)) .dead, st := σ.st ++ ns ++ List.replicate (cnt (newSt cx) ops.toList (i + 1 + m) - cnt (newSt cx) ops.toList i) .dead } : AS).get (.hp (σ.hp.length + nh.length)) = some .dead := by
          simp only [AS.get]
          rw [List.getElem?_append_right (by simp)]
          simp
        rw [hg]
        simp only [AS.set]
        rw [List.set_append_right _ _ (by simp)]
        simp only [List.length_append, Nat.sub_self, List.set_cons_zero]
        rw [c1] at t3
        simpa using t3
      · rename_i hesc
        have hesc' : escNew cx o = false := by simpa using hesc
        have p1 : newSt cx o = true := by simp [newSt, hnn, hesc']
        have p2 : newHp cx o = false := by simp [newHp, hesc']
        rw [p1] at c1
        rw [p2] at c2
        simp only [Bool.false_eq_true, if_false, Nat.add_zero, if_true] at c1 c2
        have hslot : slot cx σ ops i o = .st (σ.st.length + ns.length) := by simp [slot, newLoc, hesc', h1]
        have := quietA_runS os (i + 1) m (putE env o.dst v) env' (ns ++ [ob]) ns' nh nh' hos' (by simpa using hl) (by omega) (by simp [h1, c1]) (by rw [h2, c2]) h
        obtain ⟨t1, t2, t3⟩ := this
        refine ⟨t1, t2, ?_⟩
        have hd : cnt (newSt cx) ops.toList (i + 1 + m) - cnt (newSt cx) ops.toList i = (cnt (newSt cx) ops.toList (i + 1 + m) - cnt (newSt cx) ops.toList (i + 1)) + 1 := by omega
        rw [hd, List.replicate_succ, hslot]
        have hg : ({ hp := σ.hp ++ nh ++ List.replicate (cnt (newHp cx) ops.toList (i + 1 + m) - cnt (newHp cx) ops.toList i) .dead, st := σ.st ++ ns ++ AObj.dead :: List.replicate (cnt (newSt cx) ops.toList (i + 1 + m) - cnt (newSt cx) ops.toList (i + 1)) .dead } : AS).get (.st (σ.st.length + ns.length)) = some .dead := by
          simp only [AS.get]
          rw [List.getElem?_append_right (by simp)]
          simp
        rw [hg]
        simp only [AS.set]
        rw [List.set_append_right _ _ (by simp)]
        simp only [List.length_append, Nat.sub_self, List.set_cons_zero]
        rw [c2] at t3
        simpa using t3
    · cases h
end
end Go.Abs
