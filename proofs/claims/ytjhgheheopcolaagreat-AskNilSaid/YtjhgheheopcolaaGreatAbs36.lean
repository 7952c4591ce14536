/- Without a bound on depth and rounds. -/
import Derived.Test.YtjhgheheopcolaaGreatAbs35
set_option linter.unusedVariables false
set_option linter.unusedSimpArgs false
namespace Go.Abs
section
variable {P : Program} {cx : Cx} {tails : List Nat}

def Sub (call call' : Caller) : Prop := ∀ f a σ ro r, call f a σ ro = some r → call' f a σ ro = some r

theorem effA_mono {call call' : Caller} (hs : Sub call call') {σ : AS} {env : Env} {o : Oper} {r : AV × AS} (h : effA P cx call σ env o = some r) : effA P cx call' σ env o = some r := by
  unfold effA at h ⊢
  split at h <;> try exact h
  rename_i f args ats
  split at h
  · rename_i f' as' h1 h2
    split at h
    · rename_i g gs hc
      exact hs _ _ _ _ _ h
    · cases h
  · cases h

theorem effA_cont {calls : Nat → Caller} {callW : Caller} (hw : ∀ f a σ ro r, callW f a σ ro = some r → ∃ n, calls n f a σ ro = some r) {σ : AS} {env : Env} {o : Oper} {r : AV × AS} (h : effA P cx callW σ env o = some r) :
    ∃ n, effA P cx (calls n) σ env o = some r := by
  unfold effA at h ⊢
  split at h <;> try exact ⟨0, h⟩
  rename_i f args ats
  split at h
  · rename_i f' as' h1 h2
    split at h
    · rename_i g gs hc
      obtain ⟨n, hn⟩ := hw _ _ _ _ _ h
      exact ⟨n, by simp only [hn]⟩
    · cases h
  · cases h

theorem seqA_mono {call call' : Caller} (hs : Sub call call') {all : List Oper} : ∀ (os : List Oper) (env : Env) (σ : AS) (r : Env × AS), seqA P cx call all os env σ = some r → seqA P cx call' all os env σ = some r
  | [], env, σ, r, h => h
  | o :: os, env, σ, r, h => by
    have ih := seqA_mono hs (all := all) os
    simp only [seqA] at h ⊢
    split at h
    · rename_i hw
      rw [if_pos hw]
      split at h
      · rename_i hv
        rw [if_pos hv]
        split at h
        · rename_i ho
          rw [if_pos ho]
          split at h
          · rename_i v hva
            exact ih _ _ _ h
          · cases h
        · cases h
      · rename_i hv
        rw [if_neg hv]
        split at h
        · rename_i v σ' he
          rw [effA_mono hs he]
          exact ih _ _ _ h
        · cases h
    · rename_i hw
      rw [if_neg hw]
      exact ih _ _ _ h

theorem qstep_mono {call call' : Caller} (hs : Sub call call') {all : List Oper} {σ : AS} {k kh : Nat} {env : Env} {o : Oper} {r : AV × Option AObj} (h : qstep P cx call σ all k kh env o = some r) : qstep P cx call' σ all k kh env o = some r := by
  unfold qstep at h ⊢
  split at h
  · rename_i hw
    rw [if_pos hw]
    split at h
    · rename_i hv; rw [if_pos hv]; exact h
    · rename_i hv
      rw [if_neg hv]
      split at h
      · rename_i hn; rw [if_pos hn]; exact h
      · rename_i hn
        rw [if_neg hn]
        split at h
        · rename_i f args ats hop
          split at h
          · rename_i f' as' h1 h2
            split at h
            · rename_i g gs hc
              split at h
              · rename_i hcond
                rw [if_pos hcond]
                split at h
                · rename_i v σ1 hcall
                  rw [hs _ _ _ _ _ hcall]
                  exact h
                · cases h
              · cases h
            · cases h
          · cases h
        · cases h
  · rename_i hw; rw [if_neg hw]; exact h

theorem qstep_cont {calls : Nat → Caller} {callW : Caller} (hw : ∀ f a σ ro r, callW f a σ ro = some r → ∃ n, calls n f a σ ro = some r) {all : List Oper} {σ : AS} {k kh : Nat} {env : Env} {o : Oper} {r : AV × Option AObj} (h : qstep P cx callW σ all k kh env o = some r) :
    ∃ n, qstep P cx (calls n) σ all k kh env o = some r := by
  unfold qstep at h ⊢
  split at h
  · rename_i hw1
    simp only [if_pos hw1]
    split at h
    · rename_i hv; simp only [if_pos hv]; exact ⟨0, h⟩
    · rename_i hv
      simp only [if_neg hv]
      split at h
      · rename_i hn; simp only [if_pos hn]; exact ⟨0, h⟩
      · rename_i hn
        simp only [if_neg hn]
        split at h
        · rename_i f args ats hop
          split at h
          · rename_i f' as' h1 h2
            split at h
            · rename_i g gs hc
              split at h
              · rename_i hcond
                split at h
                · rename_i v σ1 hcall
                  obtain ⟨n, hn⟩ := hw _ _ _ _ _ hcall
                  exact ⟨n, by simp only [if_pos hcond, hn]; exact h⟩
                · cases h
              · cases h
            · cases h
          · cases h
        · cases h
  · rename_i hw1; simp only [if_neg hw1]; exact ⟨0, h⟩

theorem quietA_mono {call call' : Caller} (hs : Sub call call') {all : List Oper} {σ : AS} : ∀ (os : List Oper) (env : Env) (ns nh : List AObj) (r : Env × List AObj × List AObj), quietA P cx call σ all os env ns nh = some r → quietA P cx call' σ all os env ns nh = some r
  | [], env, ns, nh, r, h => h
  | o :: os, env, ns, nh, r, h => by
    have ih := quietA_mono hs (all := all) (σ := σ) os
    simp only [quietA] at h ⊢
    split at h
    · rename_i v hq
      rw [qstep_mono hs hq]
      exact ih _ _ _ _ h
    · rename_i v ob hq
      rw [qstep_mono hs hq]
      simp only
      split at h
      · rename_i he; rw [if_pos he]; exact ih _ _ _ _ h
      · rename_i he; rw [if_neg he]; exact ih _ _ _ _ h
    · cases h

variable {calls : Nat → Caller} {callW : Caller}

theorem seqA_cont (hch : ∀ n m, n ≤ m → Sub (calls n) (calls m)) (hw : ∀ f a σ ro r, callW f a σ ro = some r → ∃ n, calls n f a σ ro = some r) {all : List Oper} : ∀ (os : List Oper) (env : Env) (σ : AS) (r : Env × AS), seqA P cx callW all os env σ = some r → ∃ n, seqA P cx (calls n) all os env σ = some r
  | [], env, σ, r, h => ⟨0, h⟩
  | o :: os, env, σ, r, h => by
    have ih := seqA_cont hch hw (all := all) os
    simp only [seqA] at h ⊢
    split at h
    · rename_i hw1
      simp only [if_pos hw1]
      split at h
      · rename_i hv
        simp only [if_pos hv]
        split at h
        · rename_i ho
          simp only [if_pos ho]
          split at h
          · rename_i v hva
            exact ih _ _ _ h
          · cases h
        · cases h
      · rename_i hv
        simp only [if_neg hv]
        split at h
        · rename_i v σ' he
          obtain ⟨n1, h1⟩ := effA_cont hw he
          obtain ⟨n2, h2⟩ := ih _ _ _ h
          refine ⟨max n1 n2, ?_⟩
          rw [effA_mono (hch _ _ (Nat.le_max_left _ _)) h1]
          exact seqA_mono (hch _ _ (Nat.le_max_right _ _)) _ _ _ _ h2
        · cases h
    · rename_i hw1
      simp only [if_neg hw1]
      exact ih _ _ _ h

theorem quietA_cont (hch : ∀ n m, n ≤ m → Sub (calls n) (calls m)) (hw : ∀ f a σ ro r, callW f a σ ro = some r → ∃ n, calls n f a σ ro = some r) {all : List Oper} {σ : AS} : ∀ (os : List Oper) (env : Env) (ns nh : List AObj) (r : Env × List AObj × List AObj),
    quietA P cx callW σ all os env ns nh = some r → ∃ n, quietA P cx (calls n) σ all os env ns nh = some r
  | [], env, ns, nh, r, h => ⟨0, h⟩
  | o :: os, env, ns, nh, r, h => by
    have ih := quietA_cont hch hw (all := all) (σ := σ) os
    simp only [quietA] at h ⊢
    split at h
    · rename_i v hq
      obtain ⟨n1, h1⟩ := qstep_cont hw hq
      obtain ⟨n2, h2⟩ := ih _ _ _ _ h
      refine ⟨max n1 n2, ?_⟩
      rw [qstep_mono (hch _ _ (Nat.le_max_left _ _)) h1]
      exact quietA_mono (hch _ _ (Nat.le_max_right _ _)) _ _ _ _ _ h2
    · rename_i v ob hq
      obtain ⟨n1, h1⟩ := qstep_cont hw hq
      split at h
      · rename_i he
        obtain ⟨n2, h2⟩ := ih _ _ _ _ h
        refine ⟨max n1 n2, ?_⟩
        rw [qstep_mono (hch _ _ (Nat.le_max_left _ _)) h1]
        simp only [if_pos he]
        exact quietA_mono (hch _ _ (Nat.le_max_right _ _)) _ _ _ _ _ h2
      · rename_i he
        obtain ⟨n2, h2⟩ := ih _ _ _ _ h
        refine ⟨max n1 n2, ?_⟩
        rw [qstep_mono (hch _ _ (Nat.le_max_left _ _)) h1]
        simp only [if_neg he]
        exact quietA_mono (hch _ _ (Nat.le_max_right _ _)) _ _ _ _ _ h2
    · cases h

theorem cutCall_mono {call call' : Caller} (hs : Sub call call') {σ0 : AS} {ops : List Oper} {o : Oper} {e : Env} {σ : AS} {r : AV × AS} (h : cutCall cx call σ0 ops o e σ = some r) : cutCall cx call' σ0 ops o e σ = some r := by
  unfold cutCall at h ⊢
  split at h
  · split at h
    · split at h
      · split at h
        · rename_i hc
          rw [if_pos hc]
          split at h
          · rename_i v σ1 hcall
            rw [hs _ _ _ _ _ hcall]
            exact h
          · cases h
        · cases h
      · cases h
    · cases h
  · cases h
theorem cutCall_cont {calls : Nat → Caller} {callW : Caller} (hw : ∀ f a σ ro r, callW f a σ ro = some r → ∃ n, calls n f a σ ro = some r) {σ0 : AS} {ops : List Oper} {o : Oper} {e : Env} {σ : AS} {r : AV × AS} (h : cutCall cx callW σ0 ops o e σ = some r) : ∃ n, cutCall cx (calls n) σ0 ops o e σ = some r := by
  unfold cutCall at h ⊢
  split at h
  · split at h
    · split at h
      · split at h
        · rename_i hc
          split at h
          · rename_i v σ1 hcall
            obtain ⟨n, hn⟩ := hw _ _ _ _ _ hcall
            exact ⟨n, by rw [if_pos hc, hn]; exact h⟩
          · cases h
        · cases h
      · cases h
    · cases h
  · cases h

theorem mres_mono {call call' : Caller} (hs : Sub call call') {σ0 : AS} {ops : List Oper} {pre : Bool} {chk : Option Env} {i : Nat} {o : Oper} {e : Env} {σ : AS} {k : Nat} {r : AV × AS × Nat} (h : mres P cx call σ0 ops pre chk i o e σ k = some r) : mres P cx call' σ0 ops pre chk i o e σ k = some r := by
  by_cases c3 : clsM P ops i o = 3
  · rw [mres_eq_new c3] at h ⊢
    exact h
  · by_cases c4 : clsM P ops i o = 4
    · rw [mres_eq_T c4] at h ⊢
      split at h
      · rename_i hb
        rw [if_pos hb]
        by_cases hw : wantedA ops e o = true
        · rw [if_pos hw] at h ⊢
          cases he : effA P cx call σ e o with
          | none => rw [he] at h; cases h
          | some r2 =>
            rw [he] at h
            rw [effA_mono hs he]
            exact h
        · rw [if_neg hw] at h ⊢
          exact h
      · cases h
    · by_cases c5 : clsM P ops i o = 5
      · rw [mres_eq_C c5] at h ⊢
        split at h
        · rename_i hb
          rw [if_pos hb]
          by_cases hw : wantedA ops e o = true
          · rw [if_pos hw] at h ⊢
            cases he : cutCall cx call σ0 ops o e σ with
            | none => rw [he] at h; cases h
            | some r2 =>
              rw [he] at h
              rw [cutCall_mono hs he]
              exact h
          · rw [if_neg hw] at h ⊢
            exact h
        · cases h
      · rw [mres_eq_read c3 c4 c5] at h ⊢
        exact h

theorem mres_cont {calls : Nat → Caller} {callW : Caller} (hw : ∀ f a σ ro r, callW f a σ ro = some r → ∃ n, calls n f a σ ro = some r) {σ0 : AS} {ops : List Oper} {pre : Bool} {chk : Option Env} {i : Nat} {o : Oper} {e : Env} {σ : AS} {k : Nat} {r : AV × AS × Nat} (h : mres P cx callW σ0 ops pre chk i o e σ k = some r) : ∃ n, mres P cx (calls n) σ0 ops pre chk i o e σ k = some r := by
  by_cases c3 : clsM P ops i o = 3
  · rw [mres_eq_new c3] at h
    exact ⟨0, by rw [mres_eq_new c3]; exact h⟩
  · by_cases c4 : clsM P ops i o = 4
    · rw [mres_eq_T c4] at h
      split at h
      · rename_i hb
        by_cases hwt : wantedA ops e o = true
        · rw [if_pos hwt] at h
          cases he : effA P cx callW σ e o with
          | none => rw [he] at h; cases h
          | some r2 =>
            rw [he] at h
            obtain ⟨n, hn⟩ := effA_cont hw he
            exact ⟨n, by rw [mres_eq_T c4, if_pos hb, if_pos hwt, hn]; exact h⟩
        · rw [if_neg hwt] at h
          exact ⟨0, by rw [mres_eq_T c4, if_pos hb, if_neg hwt]; exact h⟩
      · cases h
    · by_cases c5 : clsM P ops i o = 5
      · rw [mres_eq_C c5] at h
        split at h
        · rename_i hb
          by_cases hwt : wantedA ops e o = true
          · rw [if_pos hwt] at h
            cases he : cutCall cx callW σ0 ops o e σ with
            | none => rw [he] at h; cases h
            | some r2 =>
              rw [he] at h
              obtain ⟨n, hn⟩ := cutCall_cont hw he
              exact ⟨n, by rw [mres_eq_C c5, if_pos hb, if_pos hwt, hn]; exact h⟩
          · rw [if_neg hwt] at h
            exact ⟨0, by rw [mres_eq_C c5, if_pos hb, if_neg hwt]; exact h⟩
        · cases h
      · rw [mres_eq_read c3 c4 c5] at h
        exact ⟨0, by rw [mres_eq_read c3 c4 c5]; exact h⟩

theorem ms_mono {call call' : Caller} (hs : Sub call call') {σ0 : AS} {ops : List Oper} {pre : Bool} {chk : Option Env} {i : Nat} {s s' : Env × AS × Nat} (h : ms P cx call σ0 ops pre chk i s = some s') : ms P cx call' σ0 ops pre chk i s = some s' := by
  unfold ms at h ⊢
  cases ho : ops[i]? with
  | none => rw [ho] at h; cases h
  | some o =>
    rw [ho] at h
    simp only at h ⊢
    cases hm : mres P cx call σ0 ops pre chk i o s.1 s.2.1 s.2.2 with
    | none => rw [hm] at h; cases h
    | some r =>
      rw [hm] at h
      rw [mres_mono hs hm]
      exact h

theorem ms_cont {calls : Nat → Caller} {callW : Caller} (hw : ∀ f a σ ro r, callW f a σ ro = some r → ∃ n, calls n f a σ ro = some r) {σ0 : AS} {ops : List Oper} {pre : Bool} {chk : Option Env} {i : Nat} {s s' : Env × AS × Nat} (h : ms P cx callW σ0 ops pre chk i s = some s') : ∃ n, ms P cx (calls n) σ0 ops pre chk i s = some s' := by
  unfold ms at h
  cases ho : ops[i]? with
  | none => rw [ho] at h; cases h
  | some o =>
    rw [ho] at h
    simp only at h
    cases hm : mres P cx callW σ0 ops pre chk i o s.1 s.2.1 s.2.2 with
    | none => rw [hm] at h; cases h
    | some r =>
      rw [hm] at h
      obtain ⟨n, hn⟩ := mres_cont hw hm
      refine ⟨n, ?_⟩
      unfold ms
      rw [ho]
      simp only
      rw [hn]
      exact h

theorem runS_mono {S : Type} {f g : Nat → S → Option S} (h : ∀ i s s', f i s = some s' → g i s = some s') : ∀ (m i : Nat) (s s' : S), runS f m i s = some s' → runS g m i s = some s'
  | 0, _, _, _, hr => hr
  | m + 1, i, s, s', hr => by
    simp only [runS] at hr ⊢
    split at hr
    · rename_i s1 h1
      rw [h _ _ _ h1]
      exact runS_mono h m _ _ _ hr
    · cases hr

theorem runS_cont {S : Type} {f : Nat → S → Option S} {g : Nat → Nat → S → Option S} (hmono : ∀ n m, n ≤ m → ∀ i s s', g n i s = some s' → g m i s = some s') (h : ∀ i s s', f i s = some s' → ∃ n, g n i s = some s') : ∀ (m i : Nat) (s s' : S), runS f m i s = some s' → ∃ n, runS (g n) m i s = some s'
  | 0, _, _, _, hr => ⟨0, hr⟩
  | m + 1, i, s, s', hr => by
    simp only [runS] at hr
    split at hr
    · rename_i s1 h1
      obtain ⟨n1, e1⟩ := h _ _ _ h1
      obtain ⟨n2, e2⟩ := runS_cont hmono h m _ _ _ hr
      refine ⟨max n1 n2, ?_⟩
      simp only [runS]
      rw [hmono _ _ (Nat.le_max_left n1 n2) _ _ _ e1]
      exact runS_mono (fun i s s' => hmono _ _ (Nat.le_max_right n1 n2) i s s') m _ _ _ e2
    · cases hr

theorem mixA_mono {call call' : Caller} (hs : Sub call call') {σ : AS} {ops : List Oper} {env : Env} {r : Env × AS} (h : mixA P cx call σ ops env = some r) : mixA P cx call' σ ops env = some r := by
  unfold mixA at h ⊢
  split at h
  · rename_i hro
    rw [if_pos hro]
    split at h
    · rename_i hlt
      rw [if_pos hlt]
      split at h
      · rename_i e s1 k1 hr
        rw [runS_mono (fun i s s' => ms_mono hs) _ _ _ _ hr]
        simp only
        split at h
        · rename_i e2 s2 k2 hr2
          rw [runS_mono (fun i s s' => ms_mono hs) _ _ _ _ hr2]
          exact h
        · cases h
      · cases h
    · rename_i hlt
      rw [if_neg hlt]
      split at h
      · rename_i e2 s2 k2 hr2
        rw [runS_mono (fun i s s' => ms_mono hs) _ _ _ _ hr2]
        exact h
      · cases h
  · cases h

theorem mixA_cont {calls : Nat → Caller} {callW : Caller} (hch : ∀ n m, n ≤ m → Sub (calls n) (calls m)) (hw : ∀ f a σ ro r, callW f a σ ro = some r → ∃ n, calls n f a σ ro = some r) {σ : AS} {ops : List Oper} {env : Env} {r : Env × AS} (h : mixA P cx callW σ ops env = some r) : ∃ n, mixA P cx (calls n) σ ops env = some r := by
  unfold mixA at h
  split at h
  · rename_i hro
    split at h
    · rename_i hlt
      split at h
      · rename_i e s1 k1 hr
        obtain ⟨n1, e1⟩ := runS_cont (g := fun n => ms P cx (calls n) σ ops true none) (fun n m hnm i s s' => ms_mono (hch n m hnm)) (fun i s s' => ms_cont hw) _ _ _ _ hr
        split at h
        · rename_i e2 s2 k2 hr2
          obtain ⟨n2, e3⟩ := runS_cont (g := fun n => ms P cx (calls n) σ ops false (some e)) (fun n m hnm i s s' => ms_mono (hch n m hnm)) (fun i s s' => ms_cont hw) _ _ _ _ hr2
          refine ⟨max n1 n2, ?_⟩
          unfold mixA
          rw [if_pos hro, if_pos hlt, runS_mono (fun i s s' => ms_mono (hch _ _ (Nat.le_max_left n1 n2))) _ _ _ _ e1]
          simp only
          rw [runS_mono (fun i s s' => ms_mono (hch _ _ (Nat.le_max_right n1 n2))) _ _ _ _ e3]
          exact h
        · cases h
      · cases h
    · rename_i hlt
      split at h
      · rename_i e2 s2 k2 hr2
        obtain ⟨n2, e3⟩ := runS_cont (g := fun n => ms P cx (calls n) σ ops false none) (fun n m hnm i s s' => ms_mono (hch n m hnm)) (fun i s s' => ms_cont hw) _ _ _ _ hr2
        refine ⟨n2, ?_⟩
        unfold mixA
        rw [if_pos hro, if_neg hlt, e3]
        exact h
      · cases h
  · cases h

theorem regionA_mono {call call' : Caller} (hs : Sub call call') {id : Nat} {ops : List Oper} {draw : Bool} {env : Env} {σ : AS} {r : Env × AS} (h : regionA P cx tails call id ops draw env σ = some r) : regionA P cx tails call' id ops draw env σ = some r := by
  unfold regionA at h ⊢
  split at h
  · rename_i hd
    rw [if_pos hd]
    by_cases hbad : tails.contains (id + 1000000) = true
    · rw [if_pos hbad] at h; cases h
    rw [if_neg hbad] at h ⊢
    by_cases hmix : tails.contains (id + 2000000) = true
    · rw [if_pos hmix] at h ⊢
      exact mixA_mono hs h
    rw [if_neg hmix] at h ⊢
    split at h
    · rename_i env' ns nh hq
      rw [quietA_mono hs _ _ _ _ _ hq]
      simp only
      split at h
      · rename_i hc
        rw [if_pos hc]
        exact seqA_mono hs _ _ _ _ h
      · cases h
    · cases h
  · rename_i hd
    rw [if_neg hd]
    exact seqA_mono hs _ _ _ _ h

theorem regionA_cont (hch : ∀ n m, n ≤ m → Sub (calls n) (calls m)) (hw : ∀ f a σ ro r, callW f a σ ro = some r → ∃ n, calls n f a σ ro = some r) {id : Nat} {ops : List Oper} {draw : Bool} {env : Env} {σ : AS} {r : Env × AS}
    (h : regionA P cx tails callW id ops draw env σ = some r) : ∃ n, regionA P cx tails (calls n) id ops draw env σ = some r := by
  unfold regionA at h ⊢
  split at h
  · rename_i hd
    simp only [if_pos hd]
    by_cases hbad : tails.contains (id + 1000000) = true
    · rw [if_pos hbad] at h; cases h
    rw [if_neg hbad] at h
    simp only [if_neg hbad]
    by_cases hmix : tails.contains (id + 2000000) = true
    · rw [if_pos hmix] at h
      simp only [if_pos hmix]
      exact mixA_cont hch hw h
    rw [if_neg hmix] at h
    simp only [if_neg hmix]
    split at h
    · rename_i env' ns nh hq
      obtain ⟨n1, h1⟩ := quietA_cont hch hw _ _ _ _ _ hq
      split at h
      · rename_i hc
        obtain ⟨n2, h2⟩ := seqA_cont hch hw _ _ _ _ h
        refine ⟨max n1 n2, ?_⟩
        rw [quietA_mono (hch _ _ (Nat.le_max_left _ _)) _ _ _ _ _ h1]
        simp only [if_pos hc]
        exact seqA_mono (hch _ _ (Nat.le_max_right _ _)) _ _ _ _ h2
      · cases h
    · cases h
  · rename_i hd
    simp only [if_neg hd]
    exact seqA_cont hch hw _ _ _ _ h

theorem iterA_mono {f f' : St → Option (AExit × St)} (hf : ∀ st r, f st = some r → f' st = some r) : ∀ (m m' : Nat) (st : St) (r : AExit × St), m ≤ m' → iterA f m st = some r → iterA f' m' st = some r
  | 0, _, _, _, _, h => by cases h
  | m + 1, 0, _, _, hm, _ => by omega
  | m + 1, m' + 1, st, r, hm, h => by
    simp only [iterA] at h ⊢
    split at h
    · rename_i st1 h1
      rw [hf _ _ h1]
      exact iterA_mono hf m m' st1 r (by omega) h
    · rename_i hne
      rw [hf _ _ h]
      split
      · rename_i st1 h2
        exact absurd (h.trans h2) (fun he => hne st1 (by rw [← h2]; exact h))
      · rfl

theorem execA_mono {call call' : Caller} (hs : Sub call call') {n n' : Nat} (hn : n ≤ n') : ∀ (c : Code) (st : St) (r : AExit × St), execA P cx tails call n c st = some r → execA P cx tails call' n' c st = some r
  | .skip, st, r, h => by simpa [execA] using h
  | .label l, st, r, h => by simpa [execA] using h
  | .region id ops draw, st, r, h => by
    simp only [execA] at h ⊢
    split at h
    · rename_i st1 h1
      rw [regionA_mono hs h1]; exact h
    · cases h
  | .seq x y, st, r, h => by
    simp only [execA] at h ⊢
    split at h
    · rename_i st1 h1
      rw [execA_mono hs hn x _ _ h1]
      exact execA_mono hs hn y _ _ h
    · rename_i hne
      rw [execA_mono hs hn x _ _ h]
      split
      · rename_i st1 h2
        cases h2
        exact absurd h (hne st1)
      · rfl
  | .cond c x y, st, r, h => by
    simp only [execA] at h ⊢
    split at h
    · exact execA_mono hs hn x _ _ h
    · exact execA_mono hs hn y _ _ h
    · cases h
  | .block id c, st, r, h => by
    simp only [execA] at h ⊢
    split at h
    · rename_i i st1 h1
      rw [execA_mono hs hn c _ _ h1]
      exact h
    · rename_i hne
      rw [execA_mono hs hn c _ _ h]
      split
      · rename_i i st1 h2
        cases h2
        exact absurd h (hne i st1)
      · rfl
  | .loop c, st, r, h => by
    simp only [execA] at h ⊢
    exact iterA_mono (fun st r h => execA_mono hs hn c st r h) n n' st r hn h
  | .exit id, st, r, h => by simpa [execA] using h
  | .ret, st, r, h => by simpa [execA] using h
  | .goto _, st, r, h => by simp [execA] at h

open Classical in
/-- Rounds, as many as it takes. -/
noncomputable def iterW (f : St → Option (AExit × St)) (st : St) : Option (AExit × St) :=
  if h : ∃ m r, iterA f m st = some r then some h.choose_spec.choose else none

theorem iterA_det {f : St → Option (AExit × St)} {m m' : Nat} {st : St} {r r' : AExit × St} (h : iterA f m st = some r) (h' : iterA f m' st = some r') : r = r' := by
  have h1 := iterA_mono (fun _ _ h => h) m (max m m') st r (Nat.le_max_left _ _) h
  have h2 := iterA_mono (fun _ _ h => h) m' (max m m') st r' (Nat.le_max_right _ _) h'
  rw [h1] at h2
  exact Option.some.inj h2

theorem iterW_of {f : St → Option (AExit × St)} {m : Nat} {st : St} {r : AExit × St} (h : iterA f m st = some r) : iterW f st = some r := by
  unfold iterW
  have hex : ∃ m r, iterA f m st = some r := ⟨m, r, h⟩
  rw [dif_pos hex]
  exact congrArg some (iterA_det hex.choose_spec.choose_spec h)
theorem iterW_inv {f : St → Option (AExit × St)} {st : St} {r : AExit × St} (h : iterW f st = some r) : ∃ m, iterA f m st = some r := by
  unfold iterW at h
  split at h
  · rename_i hex
    cases h
    exact ⟨_, hex.choose_spec.choose_spec⟩
  · cases h
theorem iterW_next {f : St → Option (AExit × St)} {st st' : St} {r : AExit × St} (h : f st = some (.normal, st')) (h' : iterW f st' = some r) : iterW f st = some r := by
  obtain ⟨m, hm⟩ := iterW_inv h'
  exact iterW_of (m := m + 1) (by simp only [iterA, h]; exact hm)
theorem iterW_out {f : St → Option (AExit × St)} {st st' : St} {e : AExit} (h : f st = some (e, st')) (he : e ≠ .normal) : iterW f st = some (e, st') := by
  refine iterW_of (m := 1) ?_
  simp only [iterA, h]
  cases e with
  | normal => exact absurd rfl he
  | exit i => rfl
  | ret => rfl

noncomputable def execW (P : Program) (cx : Cx) (tails : List Nat) (call : Caller) : Code → St → Option (AExit × St)
  | .skip, st => some (.normal, st)
  | .label _, st => some (.normal, st)
  | .region id ops draw, st => match regionA P cx tails call id ops.toList draw st.1 st.2 with
    | some st' => some (.normal, st')
    | none => none
  | .seq a b, st => match execW P cx tails call a st with
    | some (.normal, st') => execW P cx tails call b st'
    | r => r
  | .cond c x y, st => match ev st.1 c with
    | some (.bool true) => execW P cx tails call x st
    | some (.bool false) => execW P cx tails call y st
    | _ => none
  | .block id c, st => match execW P cx tails call c st with
    | some (.exit i, st') => if i = id then some (.normal, st') else some (.exit i, st')
    | r => r
  | .loop c, st => iterW (execW P cx tails call c) st
  | .exit id, st => some (.exit id, st)
  | .ret, st => some (.ret, st)
  | _, _ => none

theorem iter_cont {f : St → Option (AExit × St)} {g : Nat → St → Option (AExit × St)} (hg : ∀ n n', n ≤ n' → ∀ st r, g n st = some r → g n' st = some r) (hf : ∀ st r, f st = some r → ∃ n, g n st = some r) :
    ∀ (m : Nat) (st : St) (r : AExit × St), iterA f m st = some r → ∃ n, iterA (g n) n st = some r
  | 0, _, _, h => by cases h
  | m + 1, st, r, h => by
    simp only [iterA] at h
    split at h
    · rename_i st1 h1
      obtain ⟨n1, e1⟩ := hf _ _ h1
      obtain ⟨n2, e2⟩ := iter_cont hg hf m st1 r h
      refine ⟨max n1 n2 + 1, ?_⟩
      simp only [iterA]
      rw [hg n1 _ (by omega) _ _ e1]
      exact iterA_mono (hg n2 (max n1 n2 + 1) (by omega)) n2 _ _ _ (by omega) e2
    · rename_i hne
      obtain ⟨n1, e1⟩ := hf _ _ h
      refine ⟨n1 + 1, ?_⟩
      simp only [iterA]
      rw [hg n1 (n1 + 1) (by omega) _ _ e1]
      split
      · rename_i st1 h2
        cases h2
        exact absurd h (hne st1)
      · rfl

theorem execW_cont (hch : ∀ n m, n ≤ m → Sub (calls n) (calls m)) (hw : ∀ f a σ ro r, callW f a σ ro = some r → ∃ n, calls n f a σ ro = some r) : ∀ (c : Code) (st : St) (r : AExit × St), execW P cx tails callW c st = some r → ∃ n, execA P cx tails (calls n) n c st = some r
  | .skip, st, r, h => ⟨0, by simpa [execA, execW] using h⟩
  | .label l, st, r, h => ⟨0, by simpa [execA, execW] using h⟩
  | .region id ops draw, st, r, h => by
    simp only [execW] at h
    split at h
    · rename_i st1 h1
      obtain ⟨n, hn⟩ := regionA_cont hch hw h1
      exact ⟨n, by simp only [execA, hn]; exact h⟩
    · cases h
  | .seq x y, st, r, h => by
    simp only [execW] at h
    split at h
    · rename_i st1 h1
      obtain ⟨n1, e1⟩ := execW_cont hch hw x _ _ h1
      obtain ⟨n2, e2⟩ := execW_cont hch hw y _ _ h
      refine ⟨max n1 n2, ?_⟩
      simp only [execA]
      rw [execA_mono (hch _ _ (Nat.le_max_left _ _)) (Nat.le_max_left _ _) x _ _ e1]
      exact execA_mono (hch _ _ (Nat.le_max_right _ _)) (Nat.le_max_right _ _) y _ _ e2
    · rename_i hne
      obtain ⟨n1, e1⟩ := execW_cont hch hw x _ _ h
      refine ⟨n1, ?_⟩
      simp only [execA]
      rw [e1]
      split
      · rename_i st1 h2
        cases h2
        exact absurd h (hne st1)
      · rfl
  | .cond c x y, st, r, h => by
    simp only [execW] at h
    split at h
    · rename_i hc
      obtain ⟨n, hn⟩ := execW_cont hch hw x _ _ h
      exact ⟨n, by simp only [execA, hc]; exact hn⟩
    · rename_i hc
      obtain ⟨n, hn⟩ := execW_cont hch hw y _ _ h
      exact ⟨n, by simp only [execA, hc]; exact hn⟩
    · cases h
  | .block id c, st, r, h => by
    simp only [execW] at h
    split at h
    · rename_i i st1 h1
      obtain ⟨n, hn⟩ := execW_cont hch hw c _ _ h1
      exact ⟨n, by simp only [execA, hn]; exact h⟩
    · rename_i hne
      obtain ⟨n, hn⟩ := execW_cont hch hw c _ _ h
      refine ⟨n, ?_⟩
      simp only [execA]
      rw [hn]
      split
      · rename_i i st1 h2
        cases h2
        exact absurd h (hne i st1)
      · rfl
  | .loop c, st, r, h => by
    simp only [execW] at h
    obtain ⟨m, hm⟩ := iterW_inv h
    obtain ⟨n, hn⟩ := iter_cont (g := fun n => execA P cx tails (calls n) n c) (fun n n' hnn st r h => execA_mono (hch _ _ hnn) hnn c st r h) (fun st r h => execW_cont hch hw c st r h) m st r hm
    exact ⟨n, by simp only [execA]; exact hn⟩
  | .exit id, st, r, h => ⟨0, by simpa [execA, execW] using h⟩
  | .ret, st, r, h => ⟨0, by simpa [execA, execW] using h⟩
  | .goto _, st, r, h => by simp [execW] at h
  | .scope _, st, r, h => by simp [execW] at h
  | .rangeFunc .., st, r, h => by simp [execW] at h
  | .refuse _, st, r, h => by simp [execW] at h
end

section
variable {P : Program} {how : FuncId → Option How}

theorem callN_mono1 : ∀ n, Sub (callN P how n) (callN P how (n + 1))
  | 0 => fun f a σ ro r h => by simp [callN] at h
  | n + 1 => fun f a σ ro r h => by
    have ih := callN_mono1 n
    rcases callN_inv h with ⟨p, hp, hr⟩ | ⟨fl, fn, c, hfl, hfn, hc, hr⟩
    · simp only [callN, hp]; exact hr
    · simp only [callN, hfl, hfn, hc]
      cases hx : execA P (cxOf fl σ ro) fl.tails (callN P how n) n c (frameA fn a, σ) with
      | none => rw [hx] at hr; simp [finishA] at hr
      | some x =>
        have := execA_mono ih (Nat.le_succ n) c _ _ hx
        simp only [callN] at this
        rw [this]
        rw [hx] at hr
        exact hr
theorem callN_mono {n m : Nat} (h : n ≤ m) : Sub (callN P how n) (callN P how m) := by
  induction h with
  | refl => exact fun _ _ _ _ _ h => h
  | step _ ih => exact fun f a σ ro r h => callN_mono1 _ _ _ _ _ _ (ih _ _ _ _ _ h)

open Classical in
/-- A call, without a bound. -/
noncomputable def callW (P : Program) (how : FuncId → Option How) : Caller := fun f a σ ro =>
  if h : ∃ n r, callN P how n f a σ ro = some r then some h.choose_spec.choose else none

theorem callW_of {n : Nat} {f : FuncId} {a : List AV} {σ : AS} {ro : Option Nat} {r : AV × AS} (h : callN P how n f a σ ro = some r) : callW P how f a σ ro = some r := by
  unfold callW
  have hex : ∃ n r, callN P how n f a σ ro = some r := ⟨n, r, h⟩
  rw [dif_pos hex]
  have h1 := callN_mono (P := P) (how := how) (Nat.le_max_left hex.choose n) _ _ _ _ _ hex.choose_spec.choose_spec
  have h2 := callN_mono (P := P) (how := how) (Nat.le_max_right hex.choose n) _ _ _ _ _ h
  rw [h1] at h2
  exact h2
theorem callW_inv {f : FuncId} {a : List AV} {σ : AS} {ro : Option Nat} {r : AV × AS} (h : callW P how f a σ ro = some r) : ∃ n, callN P how n f a σ ro = some r := by
  unfold callW at h
  split at h
  · rename_i hex
    cases h
    exact ⟨_, hex.choose_spec.choose_spec⟩
  · cases h

/-- A call runs its function's text. -/
theorem callW_body {f : FuncId} {a : List AV} {σ : AS} {ro : Option Nat} {fl : Flags} {fn : Func} {c : Code} {r : AV × AS} (hfl : how f = some (.body fl)) (hfn : P.funcs[f]? = some fn) (hc : fn.body = some c)
    (h : finishA P fl fn σ.st.length (execW P (cxOf fl σ ro) fl.tails (callW P how) c (frameA fn a, σ)) = some r) : callW P how f a σ ro = some r := by
  cases hx : execW P (cxOf fl σ ro) fl.tails (callW P how) c (frameA fn a, σ) with
  | none => rw [hx] at h; simp [finishA] at h
  | some x =>
    obtain ⟨n, hn⟩ := execW_cont (calls := callN P how) (fun n m hnm => callN_mono hnm) (fun f a σ ro r h => callW_inv h) c _ _ hx
    refine callW_of (n := n + 1) ?_
    simp only [callN, hfl, hfn, hc, hn]
    rw [hx] at h
    exact h
theorem callW_prim {f : FuncId} {a : List AV} {σ : AS} {ro : Option Nat} {p : List AV → AS → Option Nat → Option (AV × AS)} {r : AV × AS} (hp : how f = some (.prim p)) (h : p a σ ro = some r) : callW P how f a σ ro = some r :=
  callW_of (n := 1) (by simp only [callN, hp]; exact h)
end
end Go.Abs
