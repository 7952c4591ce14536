/- Part 11 of the abstract interpreter: its operations and what they say of a world, for any program and any world. -/
import Derived.Test.YtidfkjpcpgeilaaAbs10
import Derived.Sort.OwnSorted
set_option linter.unusedVariables false
set_option linter.unusedSimpArgs false
section
namespace Go.Abs
open Go.RowKit Go.MapKept Go.Maps Go.ChangeMaps Go.Proofs
def kindI : KeyKind Int := {
  at? a := match a with
    | .int .i64 k => if (Lit.int .i64 k).wf = true then some k else none
    | _ => none
  av k := .int .i64 k
  val k := .int .i64 k
  lit k := .int .i64 k
  of := intKeys
  le := leI
  most := 17592186044416 }
theorem kindI_ok {P : Program} {kt : TypeId} (hk : P.underlying kt = some (.int .i64)) : KeyKindOk P kt kindI := {
  key a k h := by
    simp only [kindI] at h
    split at h
    · rename_i n
      split at h
      · rename_i hw
        cases h
        exact ⟨rfl, by simp [kindI, keyOf, hk, mapKey, hw]⟩
      · cases h
    · cases h
  vr ρ w k u h := by cases h; rfl
  rv ρ w k := .int _ _
  one k := ⟨rfl, rfl⟩
  of es ks h := by
    have : (es.map (·.1)).map intOf = (ks.map fun k => Lit.int .i64 k).map intOf := congrArg _ h
    simpa [kindI, intKeys, Function.comp_def, intOf] using this
  perm es es' h := h.map _
  sort l l' h := isortB_int h
  most := by decide }
def kindS : KeyKind (List UInt8) := {
  at? a := match a with
    | .str s => if s.data.toList.length ≤ maxLen then some s.data.toList else none
    | _ => none
  av k := .str ⟨⟨k⟩⟩
  val k := encStr k
  lit k := .string k
  of := strKeys
  le := leB
  most := 8796093022208 }
theorem kindS_ok {P : Program} {kt : TypeId} (hk : P.underlying kt = some .string) : KeyKindOk P kt kindS := {
  key a k h := by
    simp only [kindS] at h
    split at h
    · rename_i n
      split at h
      · rename_i hw
        cases h
        refine ⟨by simp [kindS], ?_⟩
        have h1 : (ByteArray.mk ⟨n.data.toList⟩).size ≤ maxLen := hw
        simp only [kindS, keyOf, hk, encStr, mapKey]
        exact if_pos h1
      · cases h
    · cases h
  vr ρ w k u h := by cases h; rfl
  rv ρ w k := .str _
  one k := ⟨rfl, rfl⟩
  of es ks h := by
    have : (es.map (·.1)).map strOf = (ks.map fun k => Lit.string k).map strOf := congrArg _ h
    simpa [kindS, strKeys, Function.comp_def, strOf] using this
  perm es es' h := h.map _
  sort l l' h := isortB_str h
  most := by decide }
end Go.Abs
end
section
namespace Go.Abs
section
variable {P : Program} {cx : Cx} {tails : List Nat} {call call' : Caller}
theorem execW_ofA (hs : Sub call call') {n : Nat} : ∀ (c : Code) (st : St) (r : AExit × St), execA P cx tails call n c st = some r → execW P cx tails call' c st = some r := by
  intro c
  induction c with
  | region id ops draw =>
    intro st r h
    simp only [execA] at h
    simp only [execW]
    cases hr : regionA P cx tails call id ops.toList draw st.1 st.2 with
    | none => rw [hr] at h; cases h
    | some x =>
      rw [hr] at h
      rw [regionA_mono hs hr]
      exact h
  | seq a b iha ihb =>
    intro st r h
    simp only [execA] at h
    simp only [execW]
    cases ha : execA P cx tails call n a st with
    | none => rw [ha] at h; cases h
    | some x =>
      obtain ⟨e, st1⟩ := x
      rw [ha] at h
      rw [iha st _ ha]
      cases e with
      | normal => exact ihb _ _ h
      | _ => exact h
  | cond x a b iha ihb =>
    intro st r h
    simp only [execA] at h
    simp only [execW]
    split at h
    · rename_i hc; rw [hc]; exact iha _ _ h
    · rename_i hc; rw [hc]; exact ihb _ _ h
    · cases h
  | block id a iha =>
    intro st r h
    simp only [execA] at h
    simp only [execW]
    cases ha : execA P cx tails call n a st with
    | none => rw [ha] at h; cases h
    | some x =>
      rw [ha] at h
      rw [iha st _ ha]
      exact h
  | loop a iha =>
    intro st r h
    simp only [execA] at h
    simp only [execW]
    exact iterW_of (iterA_mono (fun st r hh => iha st r hh) n n st r (Nat.le_refl n) h)
  | _ =>
    intro st r h
    first | (simp only [execA] at h; simp only [execW]; exact h) | (simp [execA] at h)
theorem seqA_call {all : List Oper} {o : Oper} {env : Env} {σ σ' : AS} {f : Operand} {args : Array Operand} {ts : Array TypeId} {fv : AV} {as gs : List AV} {g : FuncId} {v : AV}
    (hop : o.op = .call { callee := .value f, args := args, argTypes := ts }) (hw : wantedA all env o = true) (hf : ev env f = some fv) (ha : evs env args.toList = some as) (hc : calleeA fv as = some (g, gs)) (hcall : call g gs σ cx.ro = some (v, σ')) :
    seqA P cx call all [o] env σ = some (putE env o.dst v, σ') := by
  have hv : isVal P o = false := by unfold isVal; rw [hop]
  simp only [seqA, hw, if_true, hv, Bool.false_eq_true, if_false, effA, hop, hf, ha, hc, hcall]
def stOf : Option (AExit × St) → St
  | some (_, st) => st
  | none => ([], ⟨[], []⟩)
def sOf : Option (Env × AS) → Env × AS
  | some s => s
  | none => ([], ⟨[], []⟩)
end
end Go.Abs
end
section
namespace Go.Abs
theorem Env.get_set {e : Env} {d i : Nat} {v : AV} : Env.get (e.set d v) i = if d = i ∧ d < e.length then v else Env.get e i := by
  simp only [Env.get, List.getD_eq_getElem?_getD]
  by_cases h : d = i
  · subst h
    by_cases hl : d < e.length
    · simp [hl]
    · simp [hl]
  · simp [h, List.getElem?_set_ne h]
section
variable {σ : AS} {b : Bool} {ob ob' : AObj} {L M : Loc} {ro : Option Nat} {h : Nat}
theorem AS.get_push_next : (σ.push b ob).get (σ.next b) = some ob := by
  cases b <;> simp [AS.push, AS.next, AS.get]
theorem AS.get_push_old (hL : (σ.get L).isSome = true) : (σ.push b ob).get L = σ.get L := by
  cases b <;> cases L <;> simp [AS.push, AS.get] at hL ⊢
  · exact List.getElem?_append_left hL
  · exact List.getElem?_append_left hL
theorem AS.eq_next (hL : (σ.get L).isSome = true) : (L = σ.next b) = False := by
  rw [eq_iff_iff, iff_false]
  rintro rfl
  cases b <;> simp [AS.next, AS.get] at hL
theorem AS.next_eq (hL : (σ.get L).isSome = true) : (σ.next b = L) = False := by
  rw [eq_iff_iff, iff_false]
  intro h
  have := AS.eq_next (b := b) hL
  rw [← h] at this
  simp at this
theorem AS.get_set_self (hL : (σ.get L).isSome = true) : (σ.set L ob).get L = some ob := by
  rw [AS.get_set, if_pos rfl, if_pos hL]
theorem AS.get_set_other (hne : ¬ M = L) : (σ.set L ob).get M = σ.get M := by
  rw [AS.get_set, if_neg hne]
theorem AS.next_st' : σ.next false = .st σ.st.length := by simp [AS.next]
theorem AS.push_len : (σ.push false ob).st.length = σ.st.length + 1 := by simp [AS.push]
theorem AS.set_st_len : (σ.set L ob).st.length = σ.st.length := by cases L <;> simp [AS.set]
theorem AS.get_push_at {k : Nat} (hk : k = σ.st.length) : (σ.push false ob).get (.st k) = some ob := by
  subst hk
  simp [AS.push, AS.get]
theorem AS.set_push_at {k : Nat} (hk : k = σ.st.length) : (σ.push false ob).set (.st k) ob' = σ.push false ob' := by
  subst hk
  simp [AS.push, AS.set]
def Own (h : Nat) (L : Loc) : Prop := ∃ i, L = .st i ∧ h ≤ i
theorem own_next (hh : h ≤ σ.st.length) : Own h (σ.next false) := ⟨σ.st.length, by simp [AS.next], hh⟩
theorem Own.wok (hL : Own h L) (hro : ∀ k, ro = some k → k ≤ h) : wok ro L = true := by
  obtain ⟨i, rfl, hi⟩ := hL
  cases ro with
  | none => rfl
  | some k => have := hro k rfl; simp only [Go.Abs.wok, decide_eq_true_eq]; omega
def Outside (h : Nat) (σ σ' : AS) : Prop := σ'.hp = σ.hp ∧ σ'.st.take h = σ.st.take h ∧ h ≤ σ'.st.length
theorem Outside.refl (hh : h ≤ σ.st.length) : Outside h σ σ := ⟨rfl, rfl, hh⟩
theorem Outside.push {σ0 : AS} (o : Outside h σ0 σ) : Outside h σ0 (σ.push false ob) := by
  obtain ⟨o1, o2, o3⟩ := o
  refine ⟨by simpa [AS.push] using o1, ?_, by simp [AS.push]; omega⟩
  simp only [AS.push, Bool.false_eq_true, if_false]
  rw [List.take_append_of_le_length o3]
  exact o2
theorem Outside.set {σ0 : AS} (o : Outside h σ0 σ) (hL : Own h L) : Outside h σ0 (σ.set L ob) := by
  obtain ⟨o1, o2, o3⟩ := o
  obtain ⟨i, rfl, hi⟩ := hL
  refine ⟨o1, ?_, by simp [AS.set]; exact o3⟩
  simp only [AS.set]
  rw [List.take_set_of_le hi]
  exact o2
theorem Outside.cut {σ0 : AS} (o : Outside σ0.st.length σ0 σ) : σ.cut σ0.st.length = σ0 := by
  obtain ⟨o1, o2, _⟩ := o
  show AS.mk σ.hp (σ.st.take σ0.st.length) = σ0
  rw [o1, o2, List.take_length]
end
end Go.Abs
end
section
namespace Go.Abs
section
variable {P : Program} {cx : Cx} {tails : List Nat} {call : Caller}
theorem range_iter {test body inc : Code} {c : Operand} {B n : Nat} {Inv Mid Mid2 : Nat → St → Prop} {Out : St → Prop}
    (hT : ∀ k st, k ≤ n → Inv k st → ∃ st1, execW P cx tails call test st = some (.normal, st1) ∧ ev st1.1 c = some (.bool (decide (k < n))) ∧ (k < n → Mid k st1) ∧ (¬ k < n → Out st1))
    (hB : ∀ k st, k < n → Mid k st → ∃ st1, execW P cx tails call body st = some (.normal, st1) ∧ Mid2 k st1)
    (hI : ∀ k st, k < n → Mid2 k st → ∃ st1, execW P cx tails call inc st = some (.normal, st1) ∧ Inv (k + 1) st1) :
    ∀ (m k : Nat) (st : St), k + m = n → Inv k st → ∃ st', iterW (execW P cx tails call (.seq test (.seq (.cond c .skip (.exit B)) (.seq body inc)))) st = some (.exit B, st') ∧ Out st'
  | 0, k, st, hk, h => by
    obtain ⟨st1, e1, e2, _, e4⟩ := hT k st (by omega) h
    have hn : ¬ k < n := by omega
    refine ⟨st1, iterW_out ?_ (by simp), e4 hn⟩
    simp only [execW, e1, e2, hn, decide_false]
  | m + 1, k, st, hk, h => by
    obtain ⟨st1, e1, e2, e3, _⟩ := hT k st (by omega) h
    have hn : k < n := by omega
    obtain ⟨st2, f1, f2⟩ := hB k st1 hn (e3 hn)
    obtain ⟨st3, g1, g2⟩ := hI k st2 hn f2
    obtain ⟨st', h1, h2⟩ := range_iter hT hB hI m (k + 1) st3 (by omega) g2
    refine ⟨st', iterW_next ?_ h1, h2⟩
    simp only [execW, e1, e2, hn, decide_true, f1, g1]
theorem execW_range {test body inc : Code} {c : Operand} {B n : Nat} {Inv Mid Mid2 : Nat → St → Prop} {Out : St → Prop}
    (hT : ∀ k st, k ≤ n → Inv k st → ∃ st1, execW P cx tails call test st = some (.normal, st1) ∧ ev st1.1 c = some (.bool (decide (k < n))) ∧ (k < n → Mid k st1) ∧ (¬ k < n → Out st1))
    (hB : ∀ k st, k < n → Mid k st → ∃ st1, execW P cx tails call body st = some (.normal, st1) ∧ Mid2 k st1)
    (hI : ∀ k st, k < n → Mid2 k st → ∃ st1, execW P cx tails call inc st = some (.normal, st1) ∧ Inv (k + 1) st1) {st : St} (h0 : Inv 0 st) :
    ∃ st', execW P cx tails call (.block B (.loop (.seq test (.seq (.cond c .skip (.exit B)) (.seq body inc))))) st = some (.normal, st') ∧ Out st' := by
  obtain ⟨st', h1, h2⟩ := range_iter (B := B) hT hB hI n 0 st (by omega) h0
  refine ⟨st', ?_, h2⟩
  rw [execW, execW, h1]
  simp
theorem execW_block_of {c : Code} {B : Nat} {st st' : St} (h : execW P cx tails call c st = some (.normal, st')) : execW P cx tails call (.block B c) st = some (.normal, st') := by
  rw [execW, h]
theorem execW_cond_t {x y : Code} {c : Operand} {st : St} {r : Option (AExit × St)} (hc : ev st.1 c = some (.bool true)) (h : execW P cx tails call x st = r) : execW P cx tails call (.cond c x y) st = r := by
  rw [execW, hc]
  exact h
theorem execW_cond_f {x y : Code} {c : Operand} {st : St} {r : Option (AExit × St)} (hc : ev st.1 c = some (.bool false)) (h : execW P cx tails call y st = r) : execW P cx tails call (.cond c x y) st = r := by
  rw [execW, hc]
  exact h
end
end Go.Abs
end
