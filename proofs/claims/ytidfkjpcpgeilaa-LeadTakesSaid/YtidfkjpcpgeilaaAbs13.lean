/- Part 13 of the abstract interpreter: its operations and what they say of a world, for any program and any world. -/
import Derived.Test.YtidfkjpcpgeilaaAbs12
set_option linter.unusedVariables false
set_option linter.unusedSimpArgs false
section
namespace Go.Abs
section
variable (P : Program) (cx : Cx) (call : Caller) (σ0 : AS) (all : List Oper)
def rvalL (chk : Option Env) (c : Nat) (o : Oper) (env : Env) (σ : AS) : Option AV :=
  if optsA env o = true then
    match c with
    | 0 => valA P σ0 env o
    | 1 => (match chk with
      | none => valA P (truncM σ0 σ) env o
      | some e => if agreeB e env o = true then valA P (truncM σ0 σ) e o else none)
    | _ => valA P σ env o
  else none
def tchkL (chk : Option Env) (l : List Nat) (σ σ' : AS) : Bool := l.all fun i => match all[i]? with
  | some o => (match chk with
    | none => false
    | some e => sameO (valA P (truncM σ0 σ) e o) (valA P (truncM σ0 σ') e o))
  | none => true
def newL (j : Nat) (σ : AS) (r : AV × AObj) : Option (AV × AS) :=
  match σ.get (.st (σ0.st.length + j)) with
  | some .dead => some (r.1, σ.set (.st (σ0.st.length + j)) r.2)
  | _ => none
def stepL (pre : Bool) (chk : Option Env) (o : Oper) (c : Nat) (l : List Nat) (env : Env) (σ : AS) : Option (AV × AS) :=
  match c with
  | 3 => if wantedA all env o = true then (newA P cx σ0 env (l.headD 0) 0 o).bind (newL σ0 (l.headD 0) σ) else some (.tup [], σ)
  | 4 => (if wantedA all env o = true then effA P cx call σ env o else some (.tup [], σ)).bind fun r => if (pre || tchkL P σ0 all chk l σ r.2) = true then some r else none
  | 5 => (if wantedA all env o = true then cutCall cx call σ0 all o env σ else some (.tup [], σ)).bind fun r => if (pre || tchkL P σ0 all chk l σ r.2) = true then some r else none
  | c => if wantedA all env o = true then (rvalL P σ0 chk c o env σ).bind fun v => some (v, σ) else some (.tup [], σ)
def mixL (pre : Bool) (chk : Option Env) : List (Oper × Nat × List Nat) → Env → AS → Option (Env × AS)
  | [], env, σ => some (env, σ)
  | x :: os, env, σ => (stepL P cx call σ0 all pre chk x.1 x.2.1 x.2.2 env σ).bind fun r => mixL pre chk os (putE env x.1.dst r.1) r.2
def planAt (i : Nat) (o : Oper) (c : Nat) (l : List Nat) : Bool :=
  clsM P all i o == c && (c != 5 || blkM P all i == 0) && (c != 3 || (l == [cntM P all (newSt cx) 0 i] && blkM P all i == 0 && !escNew cx o)) &&
  ((c != 4 && c != 5) || l == (List.range all.length).filter (fun j => match all[j]? with
    | some oj => clsM P all j oj == 1 && loose (ancsOf all) j i
    | none => false))
def planGo : Nat → List Oper → List (Nat × List Nat) → Bool
  | _, [], [] => true
  | i, o :: os, p :: ps => planAt P cx all i o p.1 p.2 && planGo (i + 1) os ps
  | _, _, _ => false
def roomL : Nat := cntM P all (newSt cx) 0 all.length
def layL : AS := { hp := σ0.hp, st := σ0.st ++ List.replicate (roomL P cx all) .dead }
def planOk (plan : List (Nat × List Nat)) : Bool := planGo P cx all 0 all plan
end
section
variable {P : Program} {cx : Cx} {call : Caller} {σ0 : AS} {all : List Oper}
theorem planGo_at : ∀ {os : List Oper} {i : Nat} {ps : List (Nat × List Nat)}, planGo P cx all i os ps = true → ∀ j o, os[j]? = some o → ∃ p : Nat × List Nat, planAt P cx all (i + j) o p.1 p.2 = true
  | [], _, _, _, j, o, ho => by simp at ho
  | o' :: os, i, [], h, j, o, ho => by simp [planGo] at h
  | o' :: os, i, p :: ps, h, j, o, ho => by
    simp only [planGo, Bool.and_eq_true] at h
    cases j with
    | zero =>
      simp only [List.getElem?_cons_zero, Option.some.injEq] at ho
      subst ho
      exact ⟨p, h.1⟩
    | succ j =>
      obtain ⟨q, hq⟩ := planGo_at h.2 j o (by simpa using ho)
      exact ⟨q, by rw [show i + (j + 1) = i + 1 + j by omega]; exact hq⟩
def NewOk (P : Program) (cx : Cx) (all : List Oper) : Prop := ∀ i o, all[i]? = some o → isNew o = true → isVal P o = false → blkM P all i = 0 ∧ escNew cx o = false
theorem val_not_new {o : Oper} (h : isVal P o = true) : isNew o = false := by
  unfold isVal at h
  unfold isNew
  split at h <;> simp_all
theorem newOk_of {plan : List (Nat × List Nat)} (hp : planOk P cx all plan = true) : NewOk P cx all := by
  intro i o ho hn hv
  obtain ⟨p, h⟩ := planGo_at hp i o ho
  rw [Nat.zero_add] at h
  simp only [planAt, Bool.and_eq_true, beq_iff_eq, Bool.or_eq_true, bne_iff_ne, Bool.not_eq_true'] at h
  obtain ⟨⟨⟨hc, _⟩, h3⟩, _⟩ := h
  have : clsM P all i o = 3 := by
    unfold clsM
    rw [if_neg (by rw [hv]; simp), if_pos hn]
  rcases h3 with h3 | ⟨⟨_, h3⟩, h4⟩
  · exact absurd (hc.symm.trans this) h3
  · exact ⟨h3, h4⟩
theorem cntHp (h : NewOk P cx all) (k n : Nat) : cntM P all (newHp cx) k n = 0 := by
  unfold cntM
  rw [List.length_eq_zero_iff, List.filter_eq_nil_iff]
  intro i _
  unfold atBlk
  cases ho : all[i]? with
  | none => simp
  | some o =>
    simp only [newHp, Bool.and_eq_true, beq_iff_eq, not_and]
    intro hn he
    have hv : isVal P o = false := by
      cases hv : isVal P o with
      | false => rfl
      | true => rw [val_not_new hv] at hn; cases hn.1
    rw [(h i o ho hn.1 hv).2] at hn
    cases hn.2
theorem cntSt (h : NewOk P cx all) (k n : Nat) : cntM P all (newSt cx) (k + 1) n = 0 := by
  unfold cntM
  rw [List.length_eq_zero_iff, List.filter_eq_nil_iff]
  intro i _
  unfold atBlk
  cases ho : all[i]? with
  | none => simp
  | some o =>
    simp only [newSt, Bool.and_eq_true, beq_iff_eq, not_and]
    intro hn he
    have hv : isVal P o = false := by
      cases hv : isVal P o with
      | false => rfl
      | true => rw [val_not_new hv] at hn; cases hn.1
    rw [(h i o ho hn.1 hv).1] at he
    omega
theorem reserve0 (h : NewOk P cx all) : reserveM P cx all 0 σ0 = layL P cx σ0 all := by
  unfold reserveM layL roomL
  rw [cntHp h]
  simp
theorem reserveS (h : NewOk P cx all) (k : Nat) (σ : AS) : reserveM P cx all (k + 1) σ = σ := by
  unfold reserveM
  rw [cntHp h, cntSt h]
  simp
theorem noHp_of (h : NewOk P cx all) : noHp cx all = true := by
  unfold noHp
  rw [List.all_eq_true]
  intro o ho
  obtain ⟨i, hi⟩ := List.mem_iff_getElem?.1 ho
  cases hn : isNew o with
  | false => simp [newHp, hn]
  | true =>
    have hv : isVal P o = false := by
      cases hv : isVal P o with
      | false => rfl
      | true => rw [val_not_new hv] at hn; cases hn
    simp [newHp, hn, (h i o hi hn hv).2]
theorem tchk_eq {chk : Option Env} {j : Nat} {l : List Nat} {σ σ' : AS} (hl : l = (List.range all.length).filter (fun i => match all[i]? with
    | some oi => clsM P all i oi == 1 && loose (ancsOf all) i j
    | none => false)) : tchkM P σ0 all chk j σ σ' = tchkL P σ0 all chk l σ σ' := by
  subst hl
  unfold tchkM tchkL
  rw [List.all_filter]
  congr 1
  funext i
  cases ho : all[i]? with
  | none => simp
  | some o =>
    by_cases hc : (clsM P all i o == 1 && loose (ancsOf all) i j) = true
    · simp only [hc, if_true, Bool.not_true, Bool.false_or]
      cases chk <;> rfl
    · simp [hc]
theorem blk_succ {i : Nat} {o : Oper} (ho : all[i]? = some o) : blkM P all (i + 1) = blkM P all i + (if clsM P all i o = 4 then 1 else 0) := by
  unfold blkM
  rw [List.range_succ, List.filter_append, List.length_append]
  congr 1
  unfold clsM
  by_cases hv : isVal P o = true
  · rw [if_pos hv]
    have h1 : ¬ (if isEnv o = true then 0 else if allNear P all i = true then 2 else 1) = 4 := by
      split
      · simp
      · split <;> simp
    rw [if_neg h1]
    simp [isFull, ho, isT, hv]
  · rw [if_neg hv]
    by_cases hn : isNew o = true
    · rw [if_pos hn]
      simp [isFull, ho, isT, hn]
    · rw [if_neg hn]
      by_cases hc : isCut P all i o = true
      · rw [if_pos hc]
        simp [isFull, ho, hc]
      · rw [if_neg hc]
        simp [isFull, ho, isT, hv, hn, hc]
theorem mixL_run {pre : Bool} {chk : Option Env} (hN : NewOk P cx all) : ∀ (os : List Oper) (ps : List (Nat × List Nat)) (i : Nat) (env : Env) (σ : AS), (∀ j, all[i + j]? = os[j]?) → planGo P cx all i os ps = true →
    (blkM P all i = 0 → σ.st.length = σ0.st.length + roomL P cx all ∧ σ0.hp.length ≤ σ.hp.length) →
    (runS (ms P cx call σ0 all pre chk) os.length i (env, σ, blkM P all i)).map (fun r => (r.1, r.2.1)) = mixL P cx call σ0 all pre chk (os.zip ps) env σ
  | [], _, i, env, σ, _, _, _ => rfl
  | o :: os, [], i, env, σ, _, h, _ => by simp [planGo] at h
  | o :: os, p :: ps, i, env, σ, ha, h, hI => by
    have ho : all[i]? = some o := by simpa using ha 0
    have hm := List.mem_of_getElem? ho
    have hrec : ∀ j, all[i + 1 + j]? = os[j]? := fun j => by have := ha (j + 1); simpa [Nat.add_assoc, Nat.add_comm 1 j] using this
    simp only [planGo, Bool.and_eq_true] at h
    obtain ⟨hp, hg⟩ := h
    have ih := fun env σ hI => mixL_run (pre := pre) (chk := chk) hN os ps (i + 1) env σ hrec hg hI
    simp only [planAt, Bool.and_eq_true, beq_iff_eq, Bool.not_eq_true', bne_iff_ne, Bool.or_eq_true] at hp
    obtain ⟨⟨⟨hc, h5⟩, h3⟩, h4⟩ := hp
    have hb := blk_succ (P := P) ho
    rw [hc] at hb
    obtain ⟨c, l⟩ := p
    simp only at hc h5 h3 h4 hb ih ⊢
    simp only [List.length_cons, runS, ms, ho, List.zip_cons_cons, mixL]
    rcases Nat.lt_trichotomy c 3 with hlt | hlt | hlt
    · have hc4 : ¬ c = 4 := by omega
      rw [if_neg hc4, Nat.add_zero] at hb
      rw [hb] at ih
      have hr : mres P cx call σ0 all pre chk i o env σ (blkM P all i) = (stepL P cx call σ0 all pre chk o c l env σ).map (fun r => (r.1, r.2, blkM P all i)) := by
        unfold mres stepL rvalM rvalL
        rw [hc]
        have : c = 0 ∨ c = 1 ∨ c = 2 := by omega
        rcases this with rfl | rfl | rfl
        · simp only
          by_cases hw : wantedA all env o = true
          · simp only [hw, if_true]
            by_cases hop : optsA env o = true
            · simp only [hop, if_true]
              cases valA P σ0 env o <;> rfl
            · simp only [hop, if_false]; rfl
          · simp only [hw, if_false]; rfl
        · simp only
          by_cases hw : wantedA all env o = true
          · simp only [hw, if_true]
            by_cases hop : optsA env o = true
            · simp only [hop, if_true]
              cases chk with
              | none => simp only; cases valA P (truncM σ0 σ) env o <;> rfl
              | some e =>
                simp only
                by_cases hag : agreeB e env o = true
                · simp only [hag, if_true]; cases valA P (truncM σ0 σ) e o <;> rfl
                · simp only [hag, if_false]; rfl
            · simp only [hop, if_false]; rfl
          · simp only [hw, if_false]; rfl
        · simp only
          by_cases hw : wantedA all env o = true
          · simp only [hw, if_true]
            by_cases hop : optsA env o = true
            · simp only [hop, if_true]
              cases valA P σ env o <;> rfl
            · simp only [hop, if_false]; rfl
          · simp only [hw, if_false]; rfl
      have hσ : ∀ r, stepL P cx call σ0 all pre chk o c l env σ = some r → r.2 = σ := by
        intro r hr
        unfold stepL at hr
        have : c = 0 ∨ c = 1 ∨ c = 2 := by omega
        rcases this with rfl | rfl | rfl <;>
        · simp only at hr
          split at hr
          · obtain ⟨v, _, hv⟩ := Option.bind_eq_some_iff.1 hr
            cases hv; rfl
          · cases hr; rfl
      rw [hr]
      cases hx : stepL P cx call σ0 all pre chk o c l env σ with
      | none => rfl
      | some r =>
        have := hσ r hx
        obtain ⟨v, σ'⟩ := r
        simp only at this
        subst this
        exact ih _ _ hI
    · have hc4 : ¬ c = 4 := by omega
      rw [if_neg hc4, Nat.add_zero] at hb
      rw [hb] at ih
      obtain ⟨⟨hl, hblk⟩, hesc⟩ := h3.resolve_left (fun x => x hlt)
      obtain ⟨hI1, hI2⟩ := hI hblk
      subst hlt
      subst hl
      have hcn := cntHp hN 0 all.length
      have hr : mres P cx call σ0 all pre chk i o env σ (blkM P all i) = (stepL P cx call σ0 all pre chk o 3 [cntM P all (newSt cx) 0 i] env σ).map (fun r => (r.1, r.2, blkM P all i)) := by
        unfold mres stepL
        rw [hc]
        simp only [if_true, List.headD_cons]
        rw [hblk]
        have e1 : kSt P cx all 0 σ + cntM P all (newSt cx) 0 i - σ0.st.length = cntM P all (newSt cx) 0 i := by
          unfold kSt
          unfold roomL at hI1
          omega
        have e2 : khM P cx σ0 all 0 i σ = 0 := by
          unfold khM
          rw [if_pos (noHp_of hN)]
        rw [e1, e2, hesc, hcn]
        unfold roomL at hI1
        rw [if_pos ⟨trivial, by omega, by omega⟩]
        by_cases hw : wantedA all env o = true
        · simp only [hw, if_true]
          cases newA P cx σ0 env (cntM P all (newSt cx) 0 i) 0 o with
          | none => rfl
          | some r =>
            obtain ⟨v, ob⟩ := r
            simp only [newLoc, Bool.false_eq_true, if_false, Option.bind_some, newL]
            cases σ.get (.st (σ0.st.length + cntM P all (newSt cx) 0 i)) with
            | none => rfl
            | some x => cases x <;> rfl
        · simp only [hw, if_false]; rfl
      have hσ : ∀ r, stepL P cx call σ0 all pre chk o 3 [cntM P all (newSt cx) 0 i] env σ = some r → r.2.st.length = σ.st.length ∧ r.2.hp.length = σ.hp.length := by
        intro r hr
        unfold stepL at hr
        simp only [List.headD_cons] at hr
        split at hr
        · obtain ⟨w, _, hv⟩ := Option.bind_eq_some_iff.1 hr
          unfold newL at hv
          split at hv
          · cases hv
            exact ⟨by simp [AS.set], by simp [AS.set]⟩
          · cases hv
        · cases hr; exact ⟨rfl, rfl⟩
      rw [hr]
      cases hx : stepL P cx call σ0 all pre chk o 3 [cntM P all (newSt cx) 0 i] env σ with
      | none => rfl
      | some r =>
        obtain ⟨g1, g2⟩ := hσ r hx
        exact ih _ _ fun _ => ⟨by rw [g1]; exact hI1, by rw [g2]; exact hI2⟩
    · rcases Nat.eq_or_lt_of_le hlt with hc4 | hc4
      · have hc4 : c = 4 := hc4.symm
        subst hc4
        simp only [if_true] at hb
        have hl' := (h4.resolve_left (fun x => x.1 rfl))
        have hr : mres P cx call σ0 all pre chk i o env σ (blkM P all i) = (stepL P cx call σ0 all pre chk o 4 l env σ).map (fun r => (r.1, r.2, blkM P all i + 1)) := by
          unfold mres stepL
          rw [hc]
          simp only [if_true]
          cases (if wantedA all env o = true then effA P cx call σ env o else some (.tup [], σ)) with
          | none => rfl
          | some r =>
            obtain ⟨v, σ'⟩ := r
            simp only [reserveS hN, tchk_eq hl', Option.bind_some]
            by_cases ht : (pre || tchkL P σ0 all chk l σ σ') = true
            · simp only [ht, if_true]; rfl
            · simp only [ht, if_false]; rfl
        rw [hr]
        cases hx : stepL P cx call σ0 all pre chk o 4 l env σ with
        | none => rfl
        | some r =>
          simp only [Option.map_some, Option.bind_some]
          rw [← hb]
          exact ih _ _ fun h0 => by omega
      · have : c ≤ 5 := by
          rw [← hc]
          unfold clsM
          repeat' split
          all_goals omega
        have h6 : c = 5 := by omega
        subst h6
        rw [if_neg (by omega), Nat.add_zero] at hb
        rw [hb] at ih
        have hblk := h5.resolve_left (fun x => x rfl)
        obtain ⟨hI1, hI2⟩ := hI hblk
        have hl' := (h4.resolve_left (fun x => x.2 rfl))
        have hr : mres P cx call σ0 all pre chk i o env σ (blkM P all i) = (stepL P cx call σ0 all pre chk o 5 l env σ).map (fun r => (r.1, r.2, blkM P all i)) := by
          unfold mres stepL
          rw [hc, hblk]
          simp only [if_true]
          cases (if wantedA all env o = true then cutCall cx call σ0 all o env σ else some (.tup [], σ)) with
          | none => rfl
          | some r =>
            obtain ⟨v, σ'⟩ := r
            simp only [tchk_eq hl', Option.bind_some]
            by_cases ht : (pre || tchkL P σ0 all chk l σ σ') = true
            · simp only [ht, if_true]; rfl
            · simp only [ht, if_false]; rfl
        have hσ : ∀ r, stepL P cx call σ0 all pre chk o 5 l env σ = some r → r.2.st.length = σ.st.length ∧ σ.hp.length ≤ r.2.hp.length := by
          intro r hr
          unfold stepL at hr
          obtain ⟨w, hw, hv⟩ := Option.bind_eq_some_iff.1 hr
          split at hv
          · cases hv
            split at hw
            · unfold cutCall at hw
              split at hw
              · split at hw
                · split at hw
                  · split at hw
                    · split at hw
                      · split at hw
                        · rename_i q
                          cases hw
                          refine ⟨?_, q.2.2⟩
                          simp only [List.length_append, List.length_drop, q.2.1]
                          omega
                        · cases hw
                      · cases hw
                    · cases hw
                  · cases hw
                · cases hw
              · cases hw
            · cases hw
              exact ⟨rfl, Nat.le_refl _⟩
          · cases hv
        rw [hr]
        cases hx : stepL P cx call σ0 all pre chk o 5 l env σ with
        | none => rfl
        | some r =>
          obtain ⟨g1, g2⟩ := hσ r hx
          exact ih _ _ fun _ => ⟨by rw [g1]; exact hI1, by omega⟩
theorem lay_len : (layL P cx σ0 all).st.length = σ0.st.length + roomL P cx all := by simp [layL]
theorem mixA_plan1 {plan : List (Nat × List Nat)} {env : Env} (hp : planOk P cx all plan = true) (hlt : anyLT P all = false) : mixA P cx call σ0 all env = mixL P cx call σ0 all false none (all.zip plan) env (layL P cx σ0 all) := by
  have hN := newOk_of hp
  have hh : (noHp cx all || cx.ro.isNone) = true := by rw [noHp_of hN]; rfl
  have h0 : blkM P all 0 = 0 := rfl
  have hr := mixL_run (P := P) (cx := cx) (call := call) (σ0 := σ0) (pre := false) (chk := none) hN all plan 0 env (layL P cx σ0 all) (fun j => by rw [Nat.zero_add]) hp fun _ => ⟨lay_len, Nat.le_refl _⟩
  rw [h0] at hr
  unfold mixA
  rw [if_pos hh, if_neg (by rw [hlt]; simp), reserve0 hN, ← hr]
  cases runS (ms P cx call σ0 all false none) all.length 0 (env, layL P cx σ0 all, 0) with
  | none => rfl
  | some r => rfl
theorem mixA_plan2 {plan : List (Nat × List Nat)} {env e : Env} {σe : AS} (hp : planOk P cx all plan = true) (hlt : anyLT P all = true) (h1 : mixL P cx call σ0 all true none (all.zip plan) env (layL P cx σ0 all) = some (e, σe)) :
    mixA P cx call σ0 all env = mixL P cx call σ0 all false (some e) (all.zip plan) env (layL P cx σ0 all) := by
  have hN := newOk_of hp
  have hh : (noHp cx all || cx.ro.isNone) = true := by rw [noHp_of hN]; rfl
  have h0 : blkM P all 0 = 0 := rfl
  have hr1 := mixL_run (P := P) (cx := cx) (call := call) (σ0 := σ0) (pre := true) (chk := none) hN all plan 0 env (layL P cx σ0 all) (fun j => by rw [Nat.zero_add]) hp fun _ => ⟨lay_len, Nat.le_refl _⟩
  rw [h0, h1] at hr1
  have hr := mixL_run (P := P) (cx := cx) (call := call) (σ0 := σ0) (pre := false) (chk := some e) hN all plan 0 env (layL P cx σ0 all) (fun j => by rw [Nat.zero_add]) hp fun _ => ⟨lay_len, Nat.le_refl _⟩
  rw [h0] at hr
  unfold mixA
  rw [if_pos hh, if_pos hlt, reserve0 hN, ← hr]
  cases hx : runS (ms P cx call σ0 all true none) all.length 0 (env, layL P cx σ0 all, 0) with
  | none => rw [hx] at hr1; cases hr1
  | some r =>
    rw [hx] at hr1
    simp only [Option.map_some, Option.some.injEq, Prod.mk.injEq] at hr1
    obtain ⟨e', σ', k'⟩ := r
    simp only at hr1
    obtain ⟨rfl, rfl⟩ := hr1
    simp only
    cases runS (ms P cx call σ0 all false (some e')) all.length 0 (env, layL P cx σ0 all, 0) with
    | none => rfl
    | some r => rfl
end
end Go.Abs
end
section
namespace Go.Abs
section
variable (P : Program) (cx : Cx) (call : Caller) (σ0 : AS) (all : List Oper)
def mixK (pre : Bool) (chk : Option Env) (os : List (Oper × Nat × List Nat)) (env : Env) (d : Option Tmp) (r : AV × AS) : Option (Env × AS) := mixL P cx call σ0 all pre chk os (putE env d r.1) r.2
def tK (pre : Bool) (chk : Option Env) (l : List Nat) (σ : AS) (r : AV × AS) : Option (AV × AS) := if (pre || tchkL P σ0 all chk l σ r.2) = true then some r else none
def vK (σ : AS) (v : AV) : Option (AV × AS) := some (v, σ)
end
section
variable {P : Program} {cx : Cx} {call : Caller} {σ0 : AS} {all : List Oper} {pre : Bool} {chk : Option Env} {os : List (Oper × Nat × List Nat)} {env e : Env} {σ σ' : AS} {o : Oper} {c : Nat} {l : List Nat} {v : AV} {d : Option Tmp}
theorem mixL_nil : mixL P cx call σ0 all pre chk [] env σ = some (env, σ) := rfl
theorem mixL_cons : mixL P cx call σ0 all pre chk ((o, c, l) :: os) env σ = (stepL P cx call σ0 all pre chk o c l env σ).bind (mixK P cx call σ0 all pre chk os env o.dst) := rfl
theorem mixK_eq : mixK P cx call σ0 all pre chk os env d (v, σ) = mixL P cx call σ0 all pre chk os (putE env d v) σ := rfl
theorem tK_pre : tK P σ0 all true chk l σ (v, σ') = some (v, σ') := rfl
theorem tK_eq : tK P σ0 all false chk l σ (v, σ') = if tchkL P σ0 all chk l σ σ' = true then some (v, σ') else none := rfl
theorem vK_eq : vK σ v = some (v, σ) := rfl
theorem stepL_3 : stepL P cx call σ0 all pre chk o 3 l env σ = if wantedA all env o = true then (newA P cx σ0 env (l.headD 0) 0 o).bind (newL σ0 (l.headD 0) σ) else some (.tup [], σ) := rfl
theorem stepL_4 : stepL P cx call σ0 all pre chk o 4 l env σ = if wantedA all env o = true then (effA P cx call σ env o).bind (tK P σ0 all pre chk l σ) else tK P σ0 all pre chk l σ (.tup [], σ) := by
  unfold stepL
  simp only
  split
  · rfl
  · rfl
theorem stepL_0 : stepL P cx call σ0 all pre chk o 0 l env σ = if wantedA all env o = true then (if optsA env o = true then (valA P σ0 env o).bind (vK σ) else none) else some (.tup [], σ) := by
  unfold stepL rvalL
  simp only
  split
  · split <;> rfl
  · rfl
theorem stepL_2 : stepL P cx call σ0 all pre chk o 2 l env σ = if wantedA all env o = true then (if optsA env o = true then (valA P σ env o).bind (vK σ) else none) else some (.tup [], σ) := by
  unfold stepL rvalL
  simp only
  split
  · split <;> rfl
  · rfl
theorem stepL_1n : stepL P cx call σ0 all pre none o 1 l env σ = if wantedA all env o = true then (if optsA env o = true then (valA P (truncM σ0 σ) env o).bind (vK σ) else none) else some (.tup [], σ) := by
  unfold stepL rvalL
  simp only
  split
  · split <;> rfl
  · rfl
theorem stepL_1s : stepL P cx call σ0 all pre (some e) o 1 l env σ = if wantedA all env o = true then (if optsA env o = true then (if agreeB e env o = true then (valA P (truncM σ0 σ) e o).bind (vK σ) else none) else none) else some (.tup [], σ) := by
  unfold stepL rvalL
  simp only
  split
  · split
    · split <;> rfl
    · rfl
  · rfl
theorem newL_eq {j : Nat} {ob : AObj} (h : σ.get (.st (σ0.st.length + j)) = some .dead) : newL σ0 j σ (v, ob) = some (v, σ.set (.st (σ0.st.length + j)) ob) := by
  unfold newL
  rw [h]
theorem tchkL_nil : tchkL P σ0 all chk [] σ σ' = true := rfl
theorem tchkL_cons {i : Nat} (ho : all[i]? = some o) : tchkL P σ0 all (some e) (i :: l) σ σ' = (sameO (valA P (truncM σ0 σ) e o) (valA P (truncM σ0 σ') e o) && tchkL P σ0 all (some e) l σ σ') := by
  simp only [tchkL, List.all_cons, ho]
theorem sameO_same {x y : AV} (h : AV.beq x y = true) : sameO (some x) (some y) = true := h
theorem beqI (a b : Int) : (a == b) = decide (a = b) := by by_cases h : a = b <;> simp [h]
theorem bneI (a b : Int) : (a != b) = !decide (a = b) := by by_cases h : a = b <;> simp [h]
theorem bytes_beq (s : ByteArray) : (s == s) = true := by
  cases s with
  | mk d => show (d == d) = true; simp
theorem beq_bool {b : Bool} : AV.beq (.bool b) (.bool b) = true := by simp [AV.beq]
theorem beq_int {k : IntKind} {n : Int} : AV.beq (.int k n) (.int k n) = true := by simp [AV.beq]
theorem beq_str {s : ByteArray} : AV.beq (.str s) (.str s) = true := by simp [AV.beq, bytes_beq]
theorem beq_nilp : AV.beq .nilp .nilp = true := rfl
theorem beq_ptr {L : Loc} {o : Nat} : AV.beq (.ptr L o) (.ptr L o) = true := by simp [AV.beq]
theorem beq_eptr {L : Loc} {v i o : Nat} : AV.beq (.eptr L v i o) (.eptr L v i o) = true := by simp [AV.beq]
theorem beq_nils : AV.beq .nils .nils = true := rfl
theorem beq_row {L : Loc} {v o n : Nat} : AV.beq (.row L v o n) (.row L v o n) = true := by simp [AV.beq]
theorem beq_nilm : AV.beq .nilm .nilm = true := rfl
theorem beq_map {L : Loc} : AV.beq (.map L) (.map L) = true := by simp [AV.beq]
theorem beq_agg {cs ds : List AV} : AV.beq (.agg cs) (.agg ds) = AVs.beq cs ds := rfl
theorem beq_sl {f : Bool} {z : Nat} {cs ds : List AV} : AV.beq (.sl f z cs) (.sl f z ds) = AVs.beq cs ds := by simp [AV.beq]
theorem beqs_nil : AVs.beq [] [] = true := rfl
theorem beqs_cons {a b : AV} {cs ds : List AV} : AVs.beq (a :: cs) (b :: ds) = (AV.beq a b && AVs.beq cs ds) := rfl
end
section
variable {P : Program} {cx : Cx} {tails : List Nat} {call : Caller}
theorem regionA_mix {id : Nat} {os : List Oper} {env : Env} {σ : AS} (h1 : tails.contains (id + 1000000) = false) (h2 : tails.contains (id + 2000000) = true) (h3 : tails.contains (id + 4000000) = false := by rfl) : regionA P cx tails call id os true env σ = mixA P cx call σ os env := by
  simp only [regionA, frzR, h1, h2, h3, if_true, Bool.false_eq_true, if_false]
theorem layL0 {σ0 : AS} {all : List Oper} (h : roomL P cx all = 0) : layL P cx σ0 all = σ0 := by
  unfold layL
  rw [h]
  simp
theorem layL1 {hp s : List AObj} {all : List Oper} (h : roomL P cx all = 1) : layL P cx ⟨hp, s⟩ all = ⟨hp, s ++ [.dead]⟩ := by
  unfold layL
  rw [h]
  rfl
theorem range_exit {test body inc : Code} {c : Operand} {B n : Nat} {Inv Mid Mid2 : Nat → St → Prop} {Ex : AExit → St → Prop}
    (hT : ∀ k st, k ≤ n → Inv k st → ∃ st1, execW P cx tails call test st = some (.normal, st1) ∧ ev st1.1 c = some (.bool (decide (k < n))) ∧ (k < n → Mid k st1) ∧ (¬ k < n → Ex (.exit B) st1))
    (hB : ∀ k st, k < n → Mid k st → ∃ e st1, execW P cx tails call body st = some (e, st1) ∧ ((e = .normal ∧ Mid2 k st1) ∨ (e ≠ .normal ∧ Ex e st1)))
    (hI : ∀ k st, k < n → Mid2 k st → ∃ st1, execW P cx tails call inc st = some (.normal, st1) ∧ Inv (k + 1) st1) :
    ∀ (m k : Nat) (st : St), k + m = n → Inv k st → ∃ e st', iterW (execW P cx tails call (.seq test (.seq (.cond c .skip (.exit B)) (.seq body inc)))) st = some (e, st') ∧ e ≠ .normal ∧ Ex e st'
  | 0, k, st, hk, h => by
    obtain ⟨st1, e1, e2, _, e4⟩ := hT k st (by omega) h
    have hn : ¬ k < n := by omega
    refine ⟨.exit B, st1, iterW_out ?_ (by simp), by simp, e4 hn⟩
    simp only [execW, e1, e2, hn, decide_false]
  | m + 1, k, st, hk, h => by
    obtain ⟨st1, e1, e2, e3, _⟩ := hT k st (by omega) h
    have hn : k < n := by omega
    obtain ⟨e, st2, f1, f2⟩ := hB k st1 hn (e3 hn)
    rcases f2 with ⟨rfl, f2⟩ | ⟨f2, f3⟩
    · obtain ⟨st3, g1, g2⟩ := hI k st2 hn f2
      obtain ⟨e', st', h1, h2⟩ := range_exit hT hB hI m (k + 1) st3 (by omega) g2
      refine ⟨e', st', iterW_next ?_ h1, h2⟩
      simp only [execW, e1, e2, hn, decide_true, f1, g1]
    · refine ⟨e, st2, iterW_out ?_ f2, f2, f3⟩
      simp only [execW, e1, e2, hn, decide_true, f1]
      cases e <;> first | rfl | exact absurd rfl f2
theorem execW_seq_ret {a b : Code} {st st' : St} (h : execW P cx tails call a st = some (.ret, st')) : execW P cx tails call (a.seq b) st = some (.ret, st') := by
  rw [execW, h]
theorem execW_seq_exit {a b : Code} {st st' : St} {i : Nat} (h : execW P cx tails call a st = some (.exit i, st')) : execW P cx tails call (a.seq b) st = some (.exit i, st') := by
  rw [execW, h]
theorem block_exit {c : Code} {B : Nat} {st st' : St} {e : AExit} (h : execW P cx tails call c st = some (e, st')) (he : e ≠ .exit B) : execW P cx tails call (.block B c) st = some (e, st') := by
  rw [execW, h]
  cases e with
  | exit i => simp only; rw [if_neg (by intro x; exact he (by rw [x]))]
  | _ => rfl
theorem block_out {c : Code} {B : Nat} {st st' : St} (h : execW P cx tails call c st = some (.exit B, st')) : execW P cx tails call (.block B c) st = some (.normal, st') := by
  rw [execW, h]
  simp
theorem range_std {tc ti tl tx B idT idI N n : Nat} {ty1 ty2 ty3 ty4 : TypeId} {oT o1 o2 : Oper} {body : Code} {J : Nat → Env → AS → Prop} {Ex : AExit → Env → AS → Prop}
    (hoT : oT.op = .binOp .lss ty1 (.tmp ti) (.tmp tl) ty2 ∧ oT.dst = some tc ∧ oT.guard = none)
    (ho1 : o1.op = .binOp .add ty3 (.tmp ti) (.const (.int .i64 1)) ty4 ∧ o1.dst = some tx ∧ o1.guard = none)
    (ho2 : o2.op = .move (.tmp tx) ∧ o2.dst = some ti ∧ o2.guard = none)
    (hd : ti ≠ tc ∧ tl ≠ tc ∧ tl ≠ tx ∧ tl ≠ ti ∧ tc < N ∧ tx < N ∧ ti < N) (hn : n ≤ 9223372036854775807)
    (hst : ∀ k env env' σ, env.length = N → env'.length = N → (∀ i, i ≠ tc → i ≠ tx → i ≠ ti → Env.get env' i = Env.get env i) → J k env σ → J k env' σ)
    (hb : ∀ k env σ, k < n → env.length = N → Env.get env ti = .int .i64 (k : Int) → Env.get env tl = .int .i64 (n : Int) → J k env σ → ∃ e env' σ', execW P cx tails call body (env, σ) = some (e, (env', σ')) ∧
      ((e = .normal ∧ env'.length = N ∧ Env.get env' ti = .int .i64 (k : Int) ∧ Env.get env' tl = .int .i64 (n : Int) ∧ J (k + 1) env' σ') ∨ (e ≠ .normal ∧ Ex e env' σ')))
    {env : Env} {σ : AS} (hl : env.length = N) (h1 : Env.get env ti = .int .i64 0) (h2 : Env.get env tl = .int .i64 (n : Int)) (h0 : J 0 env σ) :
    ∃ e env' σ', execW P cx tails call (.block B (.loop (.seq (.region idT #[oT] false) (.seq (.cond (.tmp tc) .skip (.exit B)) (.seq body (.region idI #[o1, o2] false)))))) (env, σ) = some (e, (env', σ')) ∧
      ((e = .normal ∧ ((env'.length = N ∧ J n env' σ') ∨ Ex (.exit B) env' σ')) ∨ (e ≠ .normal ∧ e ≠ .exit B ∧ Ex e env' σ')) := by
  obtain ⟨d1, d2, d3, d4, d5, d6, d7⟩ := hd
  obtain ⟨t1, t2, t3⟩ := hoT
  obtain ⟨i1, i2, i3⟩ := ho1
  obtain ⟨k1, k2, k3⟩ := ho2
  have hv : isVal P oT = true := by unfold isVal; rw [t1]
  have hv1 : isVal P o1 = true := by unfold isVal; rw [i1]
  have hv2 : isVal P o2 = true := by unfold isVal; rw [k1]
  have hp : optsA = fun env o => optsA env o := rfl
  let Inv : Nat → St → Prop := fun k st => st.1.length = N ∧ Env.get st.1 ti = .int .i64 (k : Int) ∧ Env.get st.1 tl = .int .i64 (n : Int) ∧ J k st.1 st.2
  let Mid2 : Nat → St → Prop := fun k st => st.1.length = N ∧ Env.get st.1 ti = .int .i64 (k : Int) ∧ Env.get st.1 tl = .int .i64 (n : Int) ∧ J (k + 1) st.1 st.2
  let Ex' : AExit → St → Prop := fun e st => (e = .exit B ∧ st.1.length = N ∧ J n st.1 st.2) ∨ Ex e st.1 st.2
  have hT : ∀ k st, k ≤ n → Inv k st → ∃ st1, execW P cx tails call (.region idT #[oT] false) st = some (.normal, st1) ∧ ev st1.1 (.tmp tc) = some (.bool (decide (k < n))) ∧ (k < n → Inv k st1) ∧ (¬ k < n → Ex' (.exit B) st1) := by
    rintro k ⟨env, σ⟩ hk ⟨a1, a2, a3, a4⟩
    simp only at a1 a2 a3 a4
    have hd : decide ((k : Int) < (n : Int)) = decide (k < n) := by
      by_cases h : k < n
      · rw [decide_eq_true h, decide_eq_true (by omega)]
      · rw [decide_eq_false h, decide_eq_false (by omega)]
    have hr : seqA P cx call [oT] [oT] env σ = some (env.set tc (.bool (decide (k < n))), σ) := by
      have hva : valA P σ env oT = some (.bool (decide (k < n))) := by
        unfold valA
        simp only [t1, ev, a2, a3]
        rw [← hd]
        rfl
      have hop : optsA env oT = true := by unfold optsA; rw [t1]
      have hw : wantedA [oT] env oT = true := by unfold wantedA; rw [t3]
      simp only [seqA, hw, hv, hop, hva, if_true, t2, putE]
    have hj := hst k env (env.set tc (.bool (decide (k < n)))) σ a1 (by simpa using a1) (fun i x1 _ _ => by rw [Env.get_set, if_neg (fun h => x1 h.1.symm)]) a4
    refine ⟨(env.set tc (.bool (decide (k < n))), σ), execW_plain hr, ?_, fun hlt => ⟨by simpa using a1, ?_, ?_, hj⟩, fun hge => .inl ⟨rfl, by simpa using a1, ?_⟩⟩
    · simp only [ev]
      rw [Env.get_set, if_pos ⟨rfl, by rw [a1]; exact d5⟩]
    · simp only
      rw [Env.get_set, if_neg (fun h => d1 h.1.symm)]
      exact a2
    · simp only
      rw [Env.get_set, if_neg (fun h => d2 h.1.symm)]
      exact a3
    · have : k = n := by omega
      subst this
      exact hj
  have hBd : ∀ k st, k < n → Inv k st → ∃ e st1, execW P cx tails call body st = some (e, st1) ∧ ((e = .normal ∧ Mid2 k st1) ∨ (e ≠ .normal ∧ Ex' e st1)) := by
    rintro k ⟨env, σ⟩ hk ⟨a1, a2, a3, a4⟩
    obtain ⟨e, env', σ', r1, r2⟩ := hb k env σ hk a1 a2 a3 a4
    refine ⟨e, (env', σ'), r1, ?_⟩
    rcases r2 with ⟨rfl, r2⟩ | ⟨r2, r3⟩
    · exact .inl ⟨rfl, r2⟩
    · exact .inr ⟨r2, .inr r3⟩
  have hIn : ∀ k st, k < n → Mid2 k st → ∃ st1, execW P cx tails call (.region idI #[o1, o2] false) st = some (.normal, st1) ∧ Inv (k + 1) st1 := by
    rintro k ⟨env, σ⟩ hk ⟨a1, a2, a3, a4⟩
    simp only at a1 a2 a3 a4
    have hwr := wr_ok (n := (k : Int) + 1) (by omega) (by omega)
    have hr : seqA P cx call [o1, o2] [o1, o2] env σ = some ((env.set tx (.int .i64 ((k : Int) + 1))).set ti (.int .i64 ((k : Int) + 1)), σ) := by
      have hva : valA P σ env o1 = some (.int .i64 ((k : Int) + 1)) := by
        unfold valA
        simp only [i1, ev, a2]
        show binA P .add ty3 _ _ (.int .i64 (k : Int)) (.int .i64 1) = _
        unfold binA
        simp [intBinA, hwr]
      have hop : optsA env o1 = true := by unfold optsA; rw [i1]
      have hop2 : ∀ e, optsA e o2 = true := fun e => by unfold optsA; rw [k1]
      have hw : wantedA [o1, o2] env o1 = true := by unfold wantedA; rw [i3]
      have hw2 : ∀ e, wantedA [o1, o2] e o2 = true := fun e => by unfold wantedA; rw [k3]
      have hva2 : valA P σ (env.set tx (.int .i64 ((k : Int) + 1))) o2 = some (.int .i64 ((k : Int) + 1)) := by
        unfold valA
        simp only [k1, ev]
        rw [Env.get_set, if_pos ⟨rfl, by rw [a1]; exact d6⟩]
      simp only [seqA, hw, hv1, hop, hva, if_true, i2, putE, hw2, hv2, hop2, hva2, k2]
    refine ⟨_, execW_plain hr, by simpa using a1, ?_, ?_, ?_⟩
    · simp only
      rw [Env.get_set, if_pos ⟨rfl, by simpa [a1] using d7⟩]
      simp
    · simp only
      rw [Env.get_set, if_neg (fun h => d4 h.1.symm), Env.get_set, if_neg (fun h => d3 h.1.symm)]
      exact a3
    · simp only
      exact hst (k + 1) env _ σ a1 (by simpa using a1) (fun i _ x2 x3 => by rw [Env.get_set, if_neg (fun h => x3 h.1.symm), Env.get_set, if_neg (fun h => x2 h.1.symm)]) a4
  obtain ⟨e, ⟨env', σ'⟩, r1, r2, r3⟩ := range_exit (B := B) hT hBd hIn n 0 (env, σ) (by omega) ⟨hl, by simpa using h1, h2, h0⟩
  by_cases he : e = .exit B
  · subst he
    refine ⟨.normal, env', σ', block_out (by rw [execW]; exact r1), .inl ⟨rfl, ?_⟩⟩
    rcases r3 with ⟨_, r3, r4⟩ | r3
    · exact .inl ⟨r3, r4⟩
    · exact .inr r3
  · refine ⟨e, env', σ', block_exit (by rw [execW]; exact r1) he, .inr ⟨r2, he, ?_⟩⟩
    rcases r3 with ⟨x, _⟩ | r3
    · exact absurd x he
    · exact r3
end
end Go.Abs
end
section
namespace Go.Abs
def promK (h : Nat) : List AV × AS → Option (AV × AS)
  | ([v], σ) => if v.inb h = true then some (v, σ.cut h) else none
  | _ => none
noncomputable def promP (run : List AV → AS → Option Nat → Option (AV × AS)) (args : List AV) (σ : AS) (ro : Option Nat) : Option (AV × AS) :=
  if ro.isNone = true then match run args σ none with
    | some r => match promL none r.2 [r.1] with
      | some x => promK σ.st.length x
      | none => none
    | none => none
  else none
theorem promP_inv {run : List AV → AS → Option Nat → Option (AV × AS)} {args : List AV} {σ : AS} {ro : Option Nat} {v : AV} {σ' : AS} (h : promP run args σ ro = some (v, σ')) :
    ro = none ∧ ∃ v1 σ1 σ2, run args σ none = some (v1, σ1) ∧ promL none σ1 [v1] = some ([v], σ2) ∧ v.inb σ.st.length = true ∧ σ' = σ2.cut σ.st.length := by
  unfold promP at h
  split at h
  · rename_i hr
    split at h
    · rename_i r h1
      obtain ⟨v1, σ1⟩ := r
      split at h
      · rename_i x h2
        obtain ⟨l, σ2⟩ := x
        unfold promK at h
        split at h
        · rename_i v2 σ3 heq
          cases heq
          split at h
          · rename_i hi
            cases h
            exact ⟨by simpa using hr, v1, σ1, σ2, h1, h2, hi, rfl⟩
          · cases h
        · cases h
      · cases h
    · cases h
  · cases h
theorem promP_eq {run : List AV → AS → Option Nat → Option (AV × AS)} {args : List AV} {σ σ1 σ2 : AS} {v v1 : AV} (h1 : run args σ none = some (v1, σ1)) (h2 : promL none σ1 [v1] = some ([v], σ2)) (h3 : v.inb σ.st.length = true) : promP run args σ none = some (v, σ2.cut σ.st.length) := by
  unfold promP
  simp only [Option.isNone_none, if_true, h1, h2, promK, h3]
theorem promP_ok {P : Program} {how : FuncId → Option How} (hm : P.follows .mixedOrders = true) (hw : HowOk P how) {f : FuncId} (hent : ∃ fn, P.funcs[f]? = some fn ∧ fn.body.isSome = true ∧ (fn.name == "runtime.NumGoroutine") = false) : PrimOk P f (promP (callW P how f)) := {
  ent := hent
  snd := by
    intro args σ ro v σ' h ρ w us s hv
    obtain ⟨_, v1, σ1, σ2, h1, h2, hi, rfl⟩ := promP_inv h
    obtain ⟨n, h1⟩ := callW_inv h1
    have ok := callN_ok hm hw n
    have hb := ok.beh f args σ none v1 σ1 h1
    refine (ok.snd f args σ none v1 σ1 h1 ρ w us s hv).mono fun e w' ⟨ρ', u, he, x, s', hu⟩ => ?_
    have hu1 : VRs ρ' w' [v1] [u] := ⟨rfl, fun i c v hc hv => by
      cases i with
      | zero =>
        simp only [List.getElem?_cons_zero, Option.some.injEq] at hc hv
        subst hc hv
        exact hu
      | succ i => simp at hc⟩
    obtain ⟨ρ2, x2, s2, hv2⟩ := promL_sound _ _ _ _ _ _ h2 s' hu1
    have hvr : VR ρ2 w' v u := hv2.2 0 v u rfl rfl
    have hb2 := hb.trans (promL_beh (h := σ.st.length) [v1] [v] σ1 σ2 h2 rfl)
    have hinv : Inv σ.st.length σ2 := hb2.inv _ (Nat.le_refl _) s.inv
    exact ⟨ρ2.cut σ.st.length, u, he, (x.trans x2).cut s.doml, s2.cut hinv, hvr.cut hi⟩
  beh := by
    intro args σ ro v σ' h
    obtain ⟨rfl, v1, σ1, σ2, h1, h2, hi, rfl⟩ := promP_inv h
    obtain ⟨n, h1⟩ := callW_inv h1
    have hb := ((callN_ok hm hw n).beh f args σ none v1 σ1 h1).trans (promL_beh (h := σ.st.length) [v1] [v] σ1 σ2 h2 rfl)
    refine ⟨fun k hk hi i cs hik hg => ?_, (fun k hr hk => by cases hr), ?_⟩
    · refine hb.inv k hk hi i cs hik ?_
      simp only [AS.cut, List.getElem?_take] at hg
      split at hg
      · exact hg
      · cases hg
    · have h2 : σ.st.length ≤ σ2.st.length := hb.len
      simp only [AS.cut, List.length_take]
      omega }
section
variable {P : Program} {cx : Cx} {call : Caller} {σ0 : AS} {all : List Oper} {pre : Bool} {chk : Option Env} {env : Env} {σ : AS} {o : Oper} {l : List Nat}
theorem stepL_5 : stepL P cx call σ0 all pre chk o 5 l env σ = if wantedA all env o = true then (cutCall cx call σ0 all o env σ).bind (tK P σ0 all pre chk l σ) else tK P σ0 all pre chk l σ (.tup [], σ) := by
  unfold stepL
  simp only
  split
  · rfl
  · rfl
end
end Go.Abs
end
section
namespace Go.Abs
section
variable (P : Program) (cx : Cx) (call : Caller) (σ0 : AS) (all : List Oper)
def resv (n : Nat) (σ : AS) : AS := { hp := σ.hp, st := σ.st ++ List.replicate n .dead }
def newZ (e : Nat) (σ : AS) (r : AV × AObj) : Option (AV × AS) :=
  match σ.get (.st (σ0.st.length + (σ.st.length - e - σ0.st.length))) with
  | some .dead => some (r.1, σ.set (.st (σ0.st.length + (σ.st.length - e - σ0.st.length))) r.2)
  | _ => none
def stepZ (pre : Bool) (chk : Option Env) (o : Oper) (c : Nat) (l : List Nat) (env : Env) (σ : AS) : Option (AV × AS) :=
  match c with
  | 3 => if σ0.st.length + l.getD 1 0 ≤ σ.st.length ∧ σ0.hp.length ≤ σ.hp.length then (if wantedA all env o = true then (newA P cx σ0 env (σ.st.length - l.headD 0 - σ0.st.length) 0 o).bind (newZ σ0 (l.headD 0) σ) else some (.tup [], σ)) else none
  | 4 => (if wantedA all env o = true then effA P cx call σ env o else some (.tup [], σ)).bind fun r => if (pre || tchkL P σ0 all chk l.tail σ (resv (l.headD 0) r.2)) = true then some (r.1, resv (l.headD 0) r.2) else none
  | 5 => (if wantedA all env o = true then cutCall cx call σ0 all o env σ else some (.tup [], σ)).bind fun r => if (pre || tchkL P σ0 all chk l.tail σ r.2) = true then some r else none
  | c => if wantedA all env o = true then (rvalL P σ0 chk c o env σ).bind fun v => some (v, σ) else some (.tup [], σ)
def mixZ (pre : Bool) (chk : Option Env) : List (Oper × Nat × List Nat) → Env → AS → Option (Env × AS)
  | [], env, σ => some (env, σ)
  | x :: os, env, σ => (stepZ P cx call σ0 all pre chk x.1 x.2.1 x.2.2 env σ).bind fun r => mixZ pre chk os (putE env x.1.dst r.1) r.2
def planAtZ (i : Nat) (o : Oper) (c : Nat) (l : List Nat) : Bool :=
  clsM P all i o == c && (c != 5 || blkM P all i == 0) && (c != 3 || (l == [cntM P all (newSt cx) (blkM P all i) all.length - cntM P all (newSt cx) (blkM P all i) i, cntM P all (newSt cx) (blkM P all i) all.length] && decide (cntM P all (newSt cx) (blkM P all i) i ≤ cntM P all (newSt cx) (blkM P all i) all.length) && !escNew cx o)) &&
  (c != 4 || l.headD 0 == cntM P all (newSt cx) (blkM P all i + 1) all.length) &&
  ((c != 4 && c != 5) || l.tail == (List.range all.length).filter (fun j => match all[j]? with
    | some oj => clsM P all j oj == 1 && loose (ancsOf all) j i
    | none => false))
def planGoZ : Nat → List Oper → List (Nat × List Nat) → Bool
  | _, [], [] => true
  | i, o :: os, p :: ps => planAtZ P cx all i o p.1 p.2 && planGoZ (i + 1) os ps
  | _, _, _ => false
def planOkZ (plan : List (Nat × List Nat)) : Bool := planGoZ P cx all 0 all plan
end
section
variable {P : Program} {cx : Cx} {call : Caller} {σ0 : AS} {all : List Oper}
theorem planGoZ_at : ∀ {os : List Oper} {i : Nat} {ps : List (Nat × List Nat)}, planGoZ P cx all i os ps = true → ∀ j o, os[j]? = some o → ∃ p : Nat × List Nat, planAtZ P cx all (i + j) o p.1 p.2 = true
  | [], _, _, _, j, o, ho => by simp at ho
  | o' :: os, i, [], h, j, o, ho => by simp [planGoZ] at h
  | o' :: os, i, p :: ps, h, j, o, ho => by
    simp only [planGoZ, Bool.and_eq_true] at h
    cases j with
    | zero =>
      simp only [List.getElem?_cons_zero, Option.some.injEq] at ho
      subst ho
      exact ⟨p, h.1⟩
    | succ j =>
      obtain ⟨q, hq⟩ := planGoZ_at h.2 j o (by simpa using ho)
      exact ⟨q, by rw [show i + (j + 1) = i + 1 + j by omega]; exact hq⟩
def NewS (cx : Cx) (all : List Oper) : Prop := ∀ (i : Nat) (o : Oper), all[i]? = some o → isNew o = true → escNew cx o = false
theorem newS_of {plan : List (Nat × List Nat)} (hp : planOkZ P cx all plan = true) : NewS cx all := by
  intro i o ho hn
  have hv : isVal P o = false := by
    cases hv : isVal P o with
    | false => rfl
    | true => rw [val_not_new hv] at hn; cases hn
  obtain ⟨p, h⟩ := planGoZ_at hp i o ho
  rw [Nat.zero_add] at h
  simp only [planAtZ, Bool.and_eq_true, beq_iff_eq, Bool.or_eq_true, bne_iff_ne, Bool.not_eq_true'] at h
  obtain ⟨⟨⟨⟨hc, _⟩, h3⟩, _⟩, _⟩ := h
  have : clsM P all i o = 3 := by
    unfold clsM
    rw [if_neg (by rw [hv]; simp), if_pos hn]
  rcases h3 with h3 | ⟨_, h4⟩
  · exact absurd (hc.symm.trans this) h3
  · exact h4
theorem cntHpZ (h : NewS cx all) (k n : Nat) : cntM P all (newHp cx) k n = 0 := by
  unfold cntM
  rw [List.length_eq_zero_iff, List.filter_eq_nil_iff]
  intro i _
  unfold atBlk
  cases ho : all[i]? with
  | none => simp
  | some o =>
    simp only [newHp, Bool.and_eq_true, beq_iff_eq, not_and]
    intro hn he
    rw [h i o ho hn.1] at hn
    cases hn.2
theorem reserveZ (h : NewS cx all) (k : Nat) (σ : AS) : reserveM P cx all k σ = resv (cntM P all (newSt cx) k all.length) σ := by
  unfold reserveM resv
  rw [cntHpZ h]
  simp
theorem noHpZ (h : NewS cx all) : noHp cx all = true := by
  unfold noHp
  rw [List.all_eq_true]
  intro o ho
  obtain ⟨i, hi⟩ := List.mem_iff_getElem?.1 ho
  cases hn : isNew o with
  | false => simp [newHp, hn]
  | true => simp [newHp, hn, h i o hi hn]
theorem mixZ_run {pre : Bool} {chk : Option Env} (hN : NewS cx all) : ∀ (os : List Oper) (ps : List (Nat × List Nat)) (i : Nat) (env : Env) (σ : AS), (∀ j, all[i + j]? = os[j]?) → planGoZ P cx all i os ps = true →
    (runS (ms P cx call σ0 all pre chk) os.length i (env, σ, blkM P all i)).map (fun r => (r.1, r.2.1)) = mixZ P cx call σ0 all pre chk (os.zip ps) env σ
  | [], _, i, env, σ, _, _ => rfl
  | o :: os, [], i, env, σ, _, h => by simp [planGoZ] at h
  | o :: os, p :: ps, i, env, σ, ha, h => by
    have ho : all[i]? = some o := by simpa using ha 0
    have hrec : ∀ j, all[i + 1 + j]? = os[j]? := fun j => by have := ha (j + 1); simpa [Nat.add_assoc, Nat.add_comm 1 j] using this
    simp only [planGoZ, Bool.and_eq_true] at h
    obtain ⟨hp, hg⟩ := h
    have ih := fun env σ => mixZ_run (pre := pre) (chk := chk) hN os ps (i + 1) env σ hrec hg
    simp only [planAtZ, Bool.and_eq_true, beq_iff_eq, Bool.not_eq_true', bne_iff_ne, Bool.or_eq_true, decide_eq_true_eq] at hp
    obtain ⟨⟨⟨⟨hc, h5⟩, h3⟩, h4⟩, h6⟩ := hp
    have hb := blk_succ (P := P) ho
    rw [hc] at hb
    obtain ⟨c, l⟩ := p
    simp only at hc h5 h3 h4 h6 hb ih ⊢
    simp only [List.length_cons, runS, ms, ho, List.zip_cons_cons, mixZ]
    rcases Nat.lt_trichotomy c 3 with hlt | hlt | hlt
    · have hc4 : ¬ c = 4 := by omega
      rw [if_neg hc4, Nat.add_zero] at hb
      rw [hb] at ih
      suffices hr : mres P cx call σ0 all pre chk i o env σ (blkM P all i) = (stepZ P cx call σ0 all pre chk o c l env σ).map (fun r => (r.1, r.2, blkM P all i)) by
        rw [hr]
        cases stepZ P cx call σ0 all pre chk o c l env σ with
        | none => rfl
        | some r => exact ih _ _
      unfold mres stepZ rvalM rvalL
      rw [hc]
      have : c = 0 ∨ c = 1 ∨ c = 2 := by omega
      rcases this with rfl | rfl | rfl
      · simp only
        by_cases hw : wantedA all env o = true
        · simp only [hw, if_true]
          by_cases hop : optsA env o = true
          · simp only [hop, if_true]
            cases valA P σ0 env o <;> rfl
          · simp only [hop, if_false]; rfl
        · simp only [hw, if_false]; rfl
      · simp only
        by_cases hw : wantedA all env o = true
        · simp only [hw, if_true]
          by_cases hop : optsA env o = true
          · simp only [hop, if_true]
            cases chk with
            | none => simp only; cases valA P (truncM σ0 σ) env o <;> rfl
            | some e =>
              simp only
              by_cases hag : agreeB e env o = true
              · simp only [hag, if_true]; cases valA P (truncM σ0 σ) e o <;> rfl
              · simp only [hag, if_false]; rfl
          · simp only [hop, if_false]; rfl
        · simp only [hw, if_false]; rfl
      · simp only
        by_cases hw : wantedA all env o = true
        · simp only [hw, if_true]
          by_cases hop : optsA env o = true
          · simp only [hop, if_true]
            cases valA P σ env o <;> rfl
          · simp only [hop, if_false]; rfl
        · simp only [hw, if_false]; rfl
    · have hc4 : ¬ c = 4 := by omega
      rw [if_neg hc4, Nat.add_zero] at hb
      rw [hb] at ih
      suffices hr : mres P cx call σ0 all pre chk i o env σ (blkM P all i) = (stepZ P cx call σ0 all pre chk o c l env σ).map (fun r => (r.1, r.2, blkM P all i)) by
        rw [hr]
        cases stepZ P cx call σ0 all pre chk o c l env σ with
        | none => rfl
        | some r => exact ih _ _
      obtain ⟨⟨hl, hle⟩, hesc⟩ := h3.resolve_left (fun x => x hlt)
      subst hl
      subst hlt
      have hcn := cntHpZ (P := P) hN (blkM P all i) all.length
      unfold mres stepZ
      rw [hc]
      simp only [true_and, List.headD_cons, List.getD_cons_succ, List.getD_cons_zero]
      have e2 : khM P cx σ0 all (blkM P all i) i σ = 0 := by
        unfold khM
        rw [if_pos (noHpZ hN)]
      rw [e2, hesc, hcn, Nat.add_zero]
      by_cases hq : σ0.st.length + cntM P all (newSt cx) (blkM P all i) all.length ≤ σ.st.length ∧ σ0.hp.length ≤ σ.hp.length
      · rw [if_pos hq, if_pos hq]
        have e1 : kSt P cx all (blkM P all i) σ + cntM P all (newSt cx) (blkM P all i) i - σ0.st.length = σ.st.length - (cntM P all (newSt cx) (blkM P all i) all.length - cntM P all (newSt cx) (blkM P all i) i) - σ0.st.length := by
          unfold kSt
          have := hq.1
          omega
        rw [e1]
        by_cases hw : wantedA all env o = true
        · simp only [hw, if_true]
          cases newA P cx σ0 env (σ.st.length - (cntM P all (newSt cx) (blkM P all i) all.length - cntM P all (newSt cx) (blkM P all i) i) - σ0.st.length) 0 o with
          | none => rfl
          | some r =>
            obtain ⟨v, ob⟩ := r
            simp only [newLoc, Bool.false_eq_true, if_false, Option.bind_some, newZ]
            cases σ.get (.st (σ0.st.length + (σ.st.length - (cntM P all (newSt cx) (blkM P all i) all.length - cntM P all (newSt cx) (blkM P all i) i) - σ0.st.length))) with
            | none => rfl
            | some x => cases x <;> rfl
        · simp only [hw, if_false]; rfl
      · rw [if_neg hq, if_neg hq]; rfl
    · rcases Nat.eq_or_lt_of_le hlt with hc4 | hc4
      · have hc4 : c = 4 := hc4.symm
        subst hc4
        simp only [if_true] at hb
        have hl' := (h6.resolve_left (fun x => x.1 rfl))
        have hl4 := h4.resolve_left (fun x => x rfl)
        rw [hb] at ih
        suffices hr : mres P cx call σ0 all pre chk i o env σ (blkM P all i) = (stepZ P cx call σ0 all pre chk o 4 l env σ).map (fun r => (r.1, r.2, blkM P all i + 1)) by
          rw [hr]
          cases stepZ P cx call σ0 all pre chk o 4 l env σ with
          | none => rfl
          | some r => exact ih _ _
        unfold mres stepZ
        rw [hc]
        simp only [if_true]
        cases (if wantedA all env o = true then effA P cx call σ env o else some (.tup [], σ)) with
        | none => rfl
        | some r =>
          obtain ⟨v, σ'⟩ := r
          simp only [reserveZ hN, tchk_eq hl', Option.bind_some, hl4]
          by_cases ht : (pre || tchkL P σ0 all chk l.tail σ (resv (cntM P all (newSt cx) (blkM P all i + 1) all.length) σ')) = true
          · simp only [ht, if_true]; rfl
          · simp only [ht, if_false]; rfl
      · have : c ≤ 5 := by
          rw [← hc]
          unfold clsM
          repeat' split
          all_goals omega
        have h7 : c = 5 := by omega
        subst h7
        rw [if_neg (by omega), Nat.add_zero] at hb
        have hblk := h5.resolve_left (fun x => x rfl)
        have hl' := (h6.resolve_left (fun x => x.2 rfl))
        rw [hb] at ih
        suffices hr : mres P cx call σ0 all pre chk i o env σ (blkM P all i) = (stepZ P cx call σ0 all pre chk o 5 l env σ).map (fun r => (r.1, r.2, blkM P all i)) by
          rw [hr]
          cases stepZ P cx call σ0 all pre chk o 5 l env σ with
          | none => rfl
          | some r => exact ih _ _
        unfold mres stepZ
        rw [hc, hblk]
        simp only [if_true]
        cases (if wantedA all env o = true then cutCall cx call σ0 all o env σ else some (.tup [], σ)) with
        | none => rfl
        | some r =>
          obtain ⟨v, σ'⟩ := r
          simp only [tchk_eq hl', Option.bind_some]
          by_cases ht : (pre || tchkL P σ0 all chk l.tail σ σ') = true
          · simp only [ht, if_true]; rfl
          · simp only [ht, if_false]; rfl
theorem mixA_planZ1 {plan : List (Nat × List Nat)} {env : Env} (hp : planOkZ P cx all plan = true) (hlt : anyLT P all = false) : mixA P cx call σ0 all env = mixZ P cx call σ0 all false none (all.zip plan) env (resv (cntM P all (newSt cx) 0 all.length) σ0) := by
  have hN := newS_of hp
  have hh : (noHp cx all || cx.ro.isNone) = true := by rw [noHpZ hN]; rfl
  have h0 : blkM P all 0 = 0 := rfl
  have hr := mixZ_run (P := P) (cx := cx) (call := call) (σ0 := σ0) (pre := false) (chk := none) hN all plan 0 env (resv (cntM P all (newSt cx) 0 all.length) σ0) (fun j => by rw [Nat.zero_add]) hp
  rw [h0] at hr
  unfold mixA
  rw [if_pos hh, if_neg (by rw [hlt]; simp), reserveZ hN, ← hr]
  cases runS (ms P cx call σ0 all false none) all.length 0 (env, resv (cntM P all (newSt cx) 0 all.length) σ0, 0) with
  | none => rfl
  | some r => rfl
theorem mixA_planZ2 {plan : List (Nat × List Nat)} {env e : Env} {σe : AS} (hp : planOkZ P cx all plan = true) (hlt : anyLT P all = true) (h1 : mixZ P cx call σ0 all true none (all.zip plan) env (resv (cntM P all (newSt cx) 0 all.length) σ0) = some (e, σe)) :
    mixA P cx call σ0 all env = mixZ P cx call σ0 all false (some e) (all.zip plan) env (resv (cntM P all (newSt cx) 0 all.length) σ0) := by
  have hN := newS_of hp
  have hh : (noHp cx all || cx.ro.isNone) = true := by rw [noHpZ hN]; rfl
  have h0 : blkM P all 0 = 0 := rfl
  have hr1 := mixZ_run (P := P) (cx := cx) (call := call) (σ0 := σ0) (pre := true) (chk := none) hN all plan 0 env (resv (cntM P all (newSt cx) 0 all.length) σ0) (fun j => by rw [Nat.zero_add]) hp
  rw [h0, h1] at hr1
  have hr := mixZ_run (P := P) (cx := cx) (call := call) (σ0 := σ0) (pre := false) (chk := some e) hN all plan 0 env (resv (cntM P all (newSt cx) 0 all.length) σ0) (fun j => by rw [Nat.zero_add]) hp
  rw [h0] at hr
  unfold mixA
  rw [if_pos hh, if_pos hlt, reserveZ hN, ← hr]
  cases hx : runS (ms P cx call σ0 all true none) all.length 0 (env, resv (cntM P all (newSt cx) 0 all.length) σ0, 0) with
  | none => rw [hx] at hr1; cases hr1
  | some r =>
    rw [hx] at hr1
    simp only [Option.map_some, Option.some.injEq, Prod.mk.injEq] at hr1
    obtain ⟨e', σ', k'⟩ := r
    simp only at hr1
    obtain ⟨rfl, rfl⟩ := hr1
    simp only
    cases runS (ms P cx call σ0 all false (some e')) all.length 0 (env, resv (cntM P all (newSt cx) 0 all.length) σ0, 0) with
    | none => rfl
    | some r => rfl
end
section
variable (P : Program) (cx : Cx) (call : Caller) (σ0 : AS) (all : List Oper)
def mixKZ (pre : Bool) (chk : Option Env) (os : List (Oper × Nat × List Nat)) (env : Env) (d : Option Tmp) (r : AV × AS) : Option (Env × AS) := mixZ P cx call σ0 all pre chk os (putE env d r.1) r.2
def tKZ (pre : Bool) (chk : Option Env) (l : List Nat) (n : Nat) (σ : AS) (r : AV × AS) : Option (AV × AS) := if (pre || tchkL P σ0 all chk l σ (resv n r.2)) = true then some (r.1, resv n r.2) else none
end
section
variable {P : Program} {cx : Cx} {call : Caller} {σ0 : AS} {all : List Oper} {pre : Bool} {chk : Option Env} {os : List (Oper × Nat × List Nat)} {env e : Env} {σ σ' : AS} {o : Oper} {c n m : Nat} {l : List Nat} {v : AV} {d : Option Tmp}
theorem mixZ_nil : mixZ P cx call σ0 all pre chk [] env σ = some (env, σ) := rfl
theorem mixZ_cons : mixZ P cx call σ0 all pre chk ((o, c, l) :: os) env σ = (stepZ P cx call σ0 all pre chk o c l env σ).bind (mixKZ P cx call σ0 all pre chk os env o.dst) := rfl
theorem mixKZ_eq : mixKZ P cx call σ0 all pre chk os env d (v, σ) = mixZ P cx call σ0 all pre chk os (putE env d v) σ := rfl
theorem tKZ_pre : tKZ P σ0 all true chk l n σ (v, σ') = some (v, resv n σ') := rfl
theorem tKZ_eq : tKZ P σ0 all false chk l n σ (v, σ') = if tchkL P σ0 all chk l σ (resv n σ') = true then some (v, resv n σ') else none := rfl
theorem resv_eq {hp st : List AObj} : resv n ⟨hp, st⟩ = ⟨hp, st ++ List.replicate n .dead⟩ := rfl
theorem stepZ_3 : stepZ P cx call σ0 all pre chk o 3 [n, m] env σ = if σ0.st.length + m ≤ σ.st.length ∧ σ0.hp.length ≤ σ.hp.length then (if wantedA all env o = true then (newA P cx σ0 env (σ.st.length - n - σ0.st.length) 0 o).bind (newZ σ0 n σ) else some (.tup [], σ)) else none := rfl
theorem stepZ_4 : stepZ P cx call σ0 all pre chk o 4 (n :: l) env σ = if wantedA all env o = true then (effA P cx call σ env o).bind (tKZ P σ0 all pre chk l n σ) else tKZ P σ0 all pre chk l n σ (.tup [], σ) := by
  unfold stepZ
  simp only
  split
  · rfl
  · rfl
theorem stepZ_5 : stepZ P cx call σ0 all pre chk o 5 (n :: l) env σ = if wantedA all env o = true then (cutCall cx call σ0 all o env σ).bind (tK P σ0 all pre chk l σ) else tK P σ0 all pre chk l σ (.tup [], σ) := by
  unfold stepZ
  simp only
  split
  · rfl
  · rfl
theorem stepZ_0 : stepZ P cx call σ0 all pre chk o 0 l env σ = if wantedA all env o = true then (if optsA env o = true then (valA P σ0 env o).bind (vK σ) else none) else some (.tup [], σ) := by
  unfold stepZ rvalL
  simp only
  split
  · split <;> rfl
  · rfl
theorem stepZ_2 : stepZ P cx call σ0 all pre chk o 2 l env σ = if wantedA all env o = true then (if optsA env o = true then (valA P σ env o).bind (vK σ) else none) else some (.tup [], σ) := by
  unfold stepZ rvalL
  simp only
  split
  · split <;> rfl
  · rfl
theorem stepZ_1n : stepZ P cx call σ0 all pre none o 1 l env σ = if wantedA all env o = true then (if optsA env o = true then (valA P (truncM σ0 σ) env o).bind (vK σ) else none) else some (.tup [], σ) := by
  unfold stepZ rvalL
  simp only
  split
  · split <;> rfl
  · rfl
theorem stepZ_1s : stepZ P cx call σ0 all pre (some e) o 1 l env σ = if wantedA all env o = true then (if optsA env o = true then (if agreeB e env o = true then (valA P (truncM σ0 σ) e o).bind (vK σ) else none) else none) else some (.tup [], σ) := by
  unfold stepZ rvalL
  simp only
  split
  · split
    · split <;> rfl
    · rfl
  · rfl
end
end Go.Abs
end
