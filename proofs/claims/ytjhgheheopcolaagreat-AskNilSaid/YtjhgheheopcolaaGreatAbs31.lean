/- Code. -/
import Derived.Test.YtjhgheheopcolaaGreatAbs30
import Derived.LoopN
set_option linter.unusedVariables false
set_option linter.unusedSimpArgs false
namespace Go.Abs
section
variable {P : Program} {cx : Cx} {call : Caller} {tails : List Nat}

def AExit.of : AExit → Exit
  | .normal => .normal
  | .exit id => .exit id
  | .ret => .ret

/-- What is held against where an execution leads. -/
def Post (ρ : Rho) (w : World) (e : AExit) (st : St) (Q : Exit → Act → World → Prop) : Prop :=
  ∀ a' w' ρ', Ext ρ w ρ' w' → SR ρ' st.2 w' → ER ρ' w' st.1 a'.tmps → a'.defers = [] → Q e.of a' w'

theorem Post.trans {ρ ρ1 : Rho} {w w1 : World} {e : AExit} {st : St} {Q : Exit → Act → World → Prop} (h : Post ρ w e st Q) (x : Ext ρ w ρ1 w1) : Post ρ1 w1 e st Q :=
  fun a' w' ρ' x' s' hE' hd' => h a' w' ρ' (x.trans x') s' hE' hd'

theorem Post.thn {ρ : Rho} {w : World} {e : AExit} {st : St} {K : Act → World → Prop} {Q : Exit → Act → World → Prop} (hn : e ≠ .normal) (h : Post ρ w e st Q) : Post ρ w e st (Exit.then K Q) :=
  fun a' w' ρ' x' s' hE' hd' => by
    have := h a' w' ρ' x' s' hE' hd'
    cases e with
    | normal => exact absurd rfl hn
    | exit id => exact this
    | ret => exact this

theorem iterA_sound {c : Code} {f : St → Option (AExit × St)} (hf : ∀ (st st' : St) (e : AExit) (a : Act) (w : World) (ρ : Rho), SR ρ st.2 w → ER ρ w st.1 a.tmps → a.defers = [] → f st = some (e, st') → ∀ Q, Post ρ w e st' Q → c.wp P Q a w) :
    ∀ (m : Nat) (st st' : St) (e : AExit) (a : Act) (w : World) (ρ : Rho), SR ρ st.2 w → ER ρ w st.1 a.tmps → a.defers = [] → iterA f m st = some (e, st') → ∀ Q, Post ρ w e st' Q → Code.rounds P c Q m a w
  | 0, st, st', e, a, w, ρ, _, _, _, h, Q, _ => by cases h
  | m + 1, st, st', e, a, w, ρ, s, hE, hd, h, Q, hQ => by
    simp only [iterA] at h
    rw [rounds_succ]
    split at h
    · rename_i st1 h1
      exact hf st st1 .normal a w ρ s hE hd h1 _ fun a1 w1 ρ1 x1 s1 hE1 hd1 => iterA_sound hf m st1 st' e a1 w1 ρ1 s1 hE1 hd1 h Q (hQ.trans x1)
    · rename_i hne
      refine hf st st' e a w ρ s hE hd h _ (Post.thn (fun he => ?_) hQ)
      subst he
      exact hne st' h

theorem execA_sound (hm : P.follows .mixedOrders = true) (hC : CallOk P call) {n : Nat} : ∀ (c : Code) (st st' : St) (e : AExit) (a : Act) (w : World) (ρ : Rho), codeOk P tails c = true → SR ρ st.2 w → ER ρ w st.1 a.tmps → a.defers = [] →
    execA P cx tails call n c st = some (e, st') → ∀ Q, Post ρ w e st' Q → c.wp P Q a w
  | .skip, st, st', e, a, w, ρ, _, s, hE, hd, h, Q, hQ => by
    simp only [execA, Option.some.injEq, Prod.mk.injEq] at h
    obtain ⟨rfl, rfl⟩ := h
    exact wp_skip (hQ a w ρ (Ext.refl _ _) s hE hd)
  | .label l, st, st', e, a, w, ρ, _, s, hE, hd, h, Q, hQ => by
    simp only [execA, Option.some.injEq, Prod.mk.injEq] at h
    obtain ⟨rfl, rfl⟩ := h
    exact wp_label (hQ a w ρ (Ext.refl _ _) s hE hd)
  | .region id ops draw, st, st', e, a, w, ρ, hk, s, hE, hd, h, Q, hQ => by
    simp only [execA] at h
    split at h
    · rename_i st1 h1
      simp only [Option.some.injEq, Prod.mk.injEq] at h
      obtain ⟨rfl, rfl⟩ := h
      exact regionA_sound hm hC hk s hE hd h1 hQ
    · cases h
  | .seq x y, st, st', e, a, w, ρ, hk, s, hE, hd, h, Q, hQ => by
    simp only [codeOk, Bool.and_eq_true] at hk
    simp only [execA] at h
    refine wp_seq ?_
    split at h
    · rename_i st1 h1
      exact execA_sound hm hC x st st1 .normal a w ρ hk.1 s hE hd h1 _ fun a1 w1 ρ1 x1 s1 hE1 hd1 => execA_sound hm hC y st1 st' e a1 w1 ρ1 hk.2 s1 hE1 hd1 h Q (hQ.trans x1)
    · rename_i hne
      refine execA_sound hm hC x st st' e a w ρ hk.1 s hE hd h _ (Post.thn (fun he => ?_) hQ)
      subst he
      exact hne st' h
  | .cond c x y, st, st', e, a, w, ρ, hk, s, hE, hd, h, Q, hQ => by
    simp only [codeOk, Bool.and_eq_true] at hk
    simp only [execA] at h
    split at h
    · rename_i hc
      have hv := ev_sound hE hc
      generalize hu : a.eval c = u at hv
      cases hv
      exact wp_cond_true hu (execA_sound hm hC x st st' e a w ρ hk.1 s hE hd h Q hQ)
    · rename_i hc
      have hv := ev_sound hE hc
      generalize hu : a.eval c = u at hv
      cases hv
      exact wp_cond_false hu (execA_sound hm hC y st st' e a w ρ hk.2 s hE hd h Q hQ)
    · cases h
  | .block id c, st, st', e, a, w, ρ, hk, s, hE, hd, h, Q, hQ => by
    simp only [codeOk] at hk
    simp only [execA] at h
    refine wp_block ?_
    split at h
    · rename_i i st1 h1
      refine execA_sound hm hC c st st1 (.exit i) a w ρ hk s hE hd h1 _ fun a1 w1 ρ1 x1 s1 hE1 hd1 => ?_
      simp only [AExit.of, Exit.inBlock]
      split at h
      · rename_i hi
        simp only [Option.some.injEq, Prod.mk.injEq] at h
        obtain ⟨rfl, rfl⟩ := h
        rw [if_pos hi]
        exact hQ a1 w1 ρ1 x1 s1 hE1 hd1
      · rename_i hi
        simp only [Option.some.injEq, Prod.mk.injEq] at h
        obtain ⟨rfl, rfl⟩ := h
        rw [if_neg hi]
        exact hQ a1 w1 ρ1 x1 s1 hE1 hd1
    · rename_i hne
      refine execA_sound hm hC c st st' e a w ρ hk s hE hd h _ fun a1 w1 ρ1 x1 s1 hE1 hd1 => ?_
      have := hQ a1 w1 ρ1 x1 s1 hE1 hd1
      cases e with
      | normal => exact this
      | exit i => exact absurd h (hne i st')
      | ret => exact this
  | .loop c, st, st', e, a, w, ρ, hk, s, hE, hd, h, Q, hQ => by
    simp only [codeOk] at hk
    simp only [execA] at h
    exact wp_loop_rounds n (iterA_sound (fun st st' e a w ρ s hE hd h Q hQ => execA_sound hm hC c st st' e a w ρ hk s hE hd h Q hQ) n st st' e a w ρ s hE hd h Q hQ)
  | .exit id, st, st', e, a, w, ρ, _, s, hE, hd, h, Q, hQ => by
    simp only [execA, Option.some.injEq, Prod.mk.injEq] at h
    obtain ⟨rfl, rfl⟩ := h
    exact wp_exit (hQ a w ρ (Ext.refl _ _) s hE hd)
  | .ret, st, st', e, a, w, ρ, _, s, hE, hd, h, Q, hQ => by
    simp only [execA, Option.some.injEq, Prod.mk.injEq] at h
    obtain ⟨rfl, rfl⟩ := h
    exact wp_ret (hQ a w ρ (Ext.refl _ _) s hE hd)
  | .goto _, st, st', e, a, w, ρ, _, _, _, _, h, _, _ => by simp [execA] at h

theorem iterA_beh {f : St → Option (AExit × St)} {h0 : Nat} {ro : Option Nat} (hf : ∀ (st st' : St) (e : AExit), h0 ≤ st.2.st.length → f st = some (e, st') → Beh h0 ro st.2 st'.2) :
    ∀ (m : Nat) (st st' : St) (e : AExit), h0 ≤ st.2.st.length → iterA f m st = some (e, st') → Beh h0 ro st.2 st'.2
  | 0, st, st', e, _, h => by cases h
  | m + 1, st, st', e, hh, h => by
    simp only [iterA] at h
    split at h
    · rename_i st1 h1
      have b := hf st st1 .normal hh h1
      exact b.trans (iterA_beh hf m st1 st' e (Nat.le_trans hh b.len) h)
    · exact hf st st' e hh h

theorem execA_beh (hC : CallOk P call) {n : Nat} : ∀ (c : Code) (st st' : St) (e : AExit), cx.h ≤ st.2.st.length → execA P cx tails call n c st = some (e, st') → Beh cx.h cx.ro st.2 st'.2
  | .skip, st, st', e, _, h => by
    simp only [execA, Option.some.injEq, Prod.mk.injEq] at h
    obtain ⟨rfl, rfl⟩ := h
    exact Beh.refl _ _ _
  | .label l, st, st', e, _, h => by
    simp only [execA, Option.some.injEq, Prod.mk.injEq] at h
    obtain ⟨rfl, rfl⟩ := h
    exact Beh.refl _ _ _
  | .region id ops draw, st, st', e, hh, h => by
    simp only [execA] at h
    split at h
    · rename_i st1 h1
      simp only [Option.some.injEq, Prod.mk.injEq] at h
      obtain ⟨rfl, rfl⟩ := h
      exact regionA_beh hC h1 hh
    · cases h
  | .seq x y, st, st', e, hh, h => by
    simp only [execA] at h
    split at h
    · rename_i st1 h1
      have b := execA_beh hC x st st1 .normal hh h1
      exact b.trans (execA_beh hC y st1 st' e (Nat.le_trans hh b.len) h)
    · exact execA_beh hC x st st' e hh h
  | .cond c x y, st, st', e, hh, h => by
    simp only [execA] at h
    split at h
    · exact execA_beh hC x st st' e hh h
    · exact execA_beh hC y st st' e hh h
    · cases h
  | .block id c, st, st', e, hh, h => by
    simp only [execA] at h
    split at h
    · rename_i i st1 h1
      have b := execA_beh hC c st st1 (.exit i) hh h1
      split at h <;> (simp only [Option.some.injEq, Prod.mk.injEq] at h; obtain ⟨rfl, rfl⟩ := h; exact b)
    · exact execA_beh hC c st st' e hh h
  | .loop c, st, st', e, hh, h => by
    simp only [execA] at h
    exact iterA_beh (fun st st' e hh h => execA_beh hC c st st' e hh h) n st st' e hh h
  | .exit id, st, st', e, _, h => by
    simp only [execA, Option.some.injEq, Prod.mk.injEq] at h
    obtain ⟨rfl, rfl⟩ := h
    exact Beh.refl _ _ _
  | .ret, st, st', e, _, h => by
    simp only [execA, Option.some.injEq, Prod.mk.injEq] at h
    obtain ⟨rfl, rfl⟩ := h
    exact Beh.refl _ _ _
  | .goto _, st, st', e, _, h => by simp [execA] at h
end
end Go.Abs
