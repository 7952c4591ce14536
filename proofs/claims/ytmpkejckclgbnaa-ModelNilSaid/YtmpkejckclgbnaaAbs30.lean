/- Regions. -/
import Derived.Test.YtmpkejckclgbnaaAbs29
set_option linter.unusedVariables false
set_option linter.unusedSimpArgs false
namespace Go.Abs

theorem AS.get_more {σ : AS} {nh ns : List AObj} (hd : (∀ o ∈ nh, o = .dead) ∧ ∀ o ∈ ns, o = .dead) {L : Loc} {ob : AObj} (h : (AS.mk (σ.hp ++ nh) (σ.st ++ ns)).get L = some ob) : σ.get L = some ob ∨ (σ.get L = none ∧ ob = .dead) := by
  cases L with
  | hp i =>
    simp only [AS.get] at h ⊢
    rcases Nat.lt_or_ge i σ.hp.length with hi | hi
    · rw [List.getElem?_append_left hi] at h; exact .inl h
    · rw [List.getElem?_append_right hi] at h
      exact .inr ⟨List.getElem?_eq_none hi, hd.1 _ (getElem?_mem' h)⟩
  | st i =>
    simp only [AS.get] at h ⊢
    rcases Nat.lt_or_ge i σ.st.length with hi | hi
    · rw [List.getElem?_append_left hi] at h; exact .inl h
    · rw [List.getElem?_append_right hi] at h
      exact .inr ⟨List.getElem?_eq_none hi, hd.2 _ (getElem?_mem' h)⟩

theorem AS.get_more' {σ : AS} {nh ns : List AObj} {L : Loc} {ob : AObj} (h : σ.get L = some ob) : (AS.mk (σ.hp ++ nh) (σ.st ++ ns)).get L = some ob := by
  cases L with
  | hp i => simp only [AS.get] at h ⊢; rw [List.getElem?_append_left (List.getElem?_eq_some_iff.1 h).1]; exact h
  | st i => simp only [AS.get] at h ⊢; rw [List.getElem?_append_left (List.getElem?_eq_some_iff.1 h).1]; exact h

theorem SR.reserve {ρ : Rho} {σ : AS} {w : World} (s : SR ρ σ w) {nh ns : List AObj} (hd : (∀ o ∈ nh, o = .dead) ∧ ∀ o ∈ ns, o = .dead) : SR ρ (AS.mk (σ.hp ++ nh) (σ.st ++ ns)) w := by
  refine ⟨⟨fun L ob ho hnd => ?_⟩, fun L p hp => ?_, s.inj, s.lt, fun i cs hc => ?_, s.nres, s.resl⟩
  · rcases AS.get_more hd ho with h | ⟨_, h⟩
    · exact s.objD L ob h hnd
    · exact absurd h hnd
  · obtain ⟨ob, ho⟩ := s.dom L p hp
    exact ⟨ob, AS.get_more' ho⟩
  · rcases AS.get_more hd hc with h | ⟨_, h⟩
    · exact s.hin i cs h
    · cases h

section
variable {P : Program} {cx : Cx} {call : Caller} {tails : List Nat}

/-- Is every region of that code fit to be run in the order of the text? -/
def codeOk (P : Program) (tails : List Nat) : Code → Bool
  | .region id ops draw => !draw || tails.contains (id + 1000000) || drawOk ops (quietN P (tails.contains id) ops.toList)
  | .seq a b => codeOk P tails a && codeOk P tails b
  | .cond _ a b => codeOk P tails a && codeOk P tails b
  | .block _ c => codeOk P tails c
  | .loop c => codeOk P tails c
  | _ => true

theorem quietN_le {P : Program} {t : Bool} {ops : List Oper} : quietN P t ops ≤ ops.length := by
  unfold quietN
  have := (List.takeWhile_prefix (p := quietOp P t) (l := ops)).length_le
  exact this

theorem regionA_sound (hm : P.follows .mixedOrders = true) (hC : CallOk P call) {id : Nat} {ops : Array Oper} {draw : Bool} (hk : codeOk P tails (.region id ops draw) = true) {env env' : Env} {σ σ' : AS} {a : Act} {w : World} {ρ : Rho}
    (s : SR ρ σ w) (hE : ER ρ w env a.tmps) (hd : a.defers = []) (h : regionA P cx tails call id ops.toList draw env σ = some (env', σ')) {Q : Exit → Act → World → Prop}
    (hQ : ∀ a' w' ρ', Ext ρ w ρ' w' → SR ρ' σ' w' → ER ρ' w' env' a'.tmps → a'.defers = [] → Q .normal a' w') : (Code.region id ops draw).wp P Q a w := by
  unfold regionA at h
  cases draw with
  | false =>
    simp only [Bool.false_eq_true, if_false] at h
    exact wp_region_list (seqA_sound hC _ _ _ _ _ _ _ _ s hE hd h hQ)
  | true =>
    simp only [if_true] at h
    simp only [codeOk, Bool.not_true, Bool.false_or] at hk
    by_cases hbad : tails.contains (id + 1000000) = true
    · rw [if_pos hbad] at h; cases h
    rw [if_neg hbad] at h
    have hk : drawOk ops (quietN P (tails.contains id) ops.toList) = true := by
      rcases Bool.or_eq_true _ _ ▸ hk with hk | hk
      · exact absurd hk hbad
      · exact hk
    have hn : quietN P (tails.contains id) ops.toList ≤ ops.size := by have := quietN_le (P := P) (t := tails.contains id) (ops := ops.toList); simpa using this
    generalize quietN P (tails.contains id) ops.toList = n at h hk hn
    split at h
    · rename_i env1 ns nh hq
      split at h
      · obtain ⟨c1, c2, hrun⟩ := quietA_runS (ops := ops) (ops.toList.take n) 0 n env env1 [] ns [] nh (fun k hk' => by rw [List.getElem?_take, if_pos hk', Nat.zero_add]) (by simp; omega) (by omega) rfl rfl hq
        simp only [List.append_nil] at hrun
        refine wp_region_lex (qs P cx call σ ops) n (R := fun S a w' => RQ ρ { w with drawn := w.drawn + 1 } σ (ops.toList.all fun o => !escNew cx o) S a w') hm hk (fun i j oi oj _ _ hi hj hij hap s s1 s2 h1 h2 => qs_comm i j oi oj hi hj hij hap s s1 s2 h1 h2)
          (fun i s0 s1 a0 w0 _ hs hR K hK => qs_sound hC s.inv i s0 s1 a0 w0 hs hR K hK) hrun ?_ ?_
        · refine ⟨ρ, Ext.refl _ _, s.drew.reserve ⟨fun o ho => (List.mem_replicate.1 ho).2, fun o ho => (List.mem_replicate.1 ho).2⟩, hE.mono Ext.drew, hd, fun L ob hg => AS.get_more' hg, fun L hg _ => ?_, fun hall => ?_, by simp⟩
          · cases hr : ρ L with
            | none => rfl
            | some p => obtain ⟨ob, ho⟩ := s.dom L p hr; rw [hg] at ho; cases ho
          · have : cnt (newHp cx) ops.toList (0 + n) = 0 := by
              unfold cnt
              rw [List.length_eq_zero_iff, List.filter_eq_nil_iff]
              intro o ho
              rw [List.all_eq_true] at hall
              have := hall o (List.mem_of_mem_take ho)
              simp only [Bool.not_eq_true'] at this
              simp [newHp, this]
            rw [this]; simp
        · intro a1 w1 ⟨ρ1, x1, s1, hE1, hd1, _⟩
          exact seqA_sound hC _ _ _ _ _ _ _ _ s1 hE1 hd1 h fun a' w' ρ' x' s' hE' hd' => hQ a' w' ρ' ((Ext.drew.trans x1).trans x') s' hE' hd'
      · cases h
    · cases h

theorem regionA_beh (hC : CallOk P call) {id : Nat} {ops : List Oper} {draw : Bool} {env env' : Env} {σ σ' : AS} (h : regionA P cx tails call id ops draw env σ = some (env', σ')) (hh : cx.h ≤ σ.st.length) : Beh cx.h cx.ro σ σ' := by
  unfold regionA at h
  split at h
  · by_cases hbad : tails.contains (id + 1000000) = true
    · rw [if_pos hbad] at h; cases h
    rw [if_neg hbad] at h
    split at h
    · rename_i env1 ns nh hq
      split at h
      · rename_i hro
        refine Beh.trans ?_ (seqA_beh hC _ _ _ _ _ h (by simp; omega))
        refine ⟨fun k hk hi i cs hik hg => ?_, fun k hr hk => ⟨?_, ?_⟩, by simp⟩
        · simp only at hg
          rw [List.getElem?_append_left (by omega)] at hg
          exact hi i cs hik hg
        · rw [hr] at hro
          simp only [Option.isNone_some, Bool.or_false, List.isEmpty_iff] at hro
          simp [hro]
        · simp only
          rw [List.take_append_of_le_length hk]
      · cases h
    · cases h
  · exact seqA_beh hC _ _ _ _ _ h hh
end
end Go.Abs
