/- Part 12 of the abstract interpreter: its operations and what they say of a world, for any program and any world. -/
import Derived.Test.YtidfkjpcpgeilaaAbs11
import Derived.LaidLaws
import Derived.LaidHandle
import Derived.Stop.Joined
set_option linter.unusedVariables false
set_option linter.unusedSimpArgs false
section
namespace Go.Abs
inductive Dir | l | r | i
noncomputable def sub : List Dir → Code → Code
  | [], c => c
  | .l :: d, .seq a _ => sub d a
  | .r :: d, .seq _ b => sub d b
  | .l :: d, .cond _ a _ => sub d a
  | .r :: d, .cond _ _ b => sub d b
  | .i :: d, .block _ c => sub d c
  | .i :: d, .loop c => sub d c
  | _, _ => .skip
noncomputable def bodyOf (f : Func) : Code := f.body.getD .skip
def Built (h : Nat) (σ : AS) (sz : Nat) (R : AV) (l : List AV) : Prop :=
  (R = .nils ∧ l = []) ∨ (l ≠ [] ∧ ∃ im v, R = .row (.st im) v 0 l.length ∧ σ.get (.st im) = some (.row l sz v false) ∧ h ≤ im)
def slV (sz : Nat) (l : List AV) : AV := if l.isEmpty = true then .nils else .sl false sz l
theorem slV_plain {sz : Nat} {l : List AV} : Plain (slV sz l) := by
  unfold slV
  split
  · exact ⟨rfl, fun _ => rfl, rfl⟩
  · exact ⟨rfl, fun _ => rfl, rfl⟩
theorem Built.one {h : Nat} {σ : AS} {sz : Nat} {R : AV} {l : List AV} (b : Built h σ sz R l) : R.one = true := by
  rcases b with ⟨rfl, _⟩ | ⟨_, im, v, rfl, _⟩ <;> rfl
theorem Built.back {h : Nat} {σ : AS} {sz : Nat} {R : AV} {l : List AV} (b : Built h σ sz R l) : R.back h σ = some (slV sz l) := by
  rcases b with ⟨rfl, rfl⟩ | ⟨hn, im, v, rfl, hg, hi⟩
  · rfl
  · have hg' : σ.st[im]? = some (.row l sz v false) := hg
    have : l.isEmpty = false := by cases l <;> simp_all
    simp [AV.back, hg', Nat.not_lt.2 hi, slV, this]
theorem Built.keep {h : Nat} {σ σ' : AS} {sz : Nat} {R : AV} {l : List AV} (b : Built h σ sz R l) (hk : ∀ im es s v, σ.get (.st im) = some (.row es s v false) → (∃ w n, R = .row (.st im) w 0 n) → σ'.get (.st im) = some (.row es s v false)) : Built h σ' sz R l := by
  rcases b with h1 | ⟨hn, im, v, rfl, hg, hi⟩
  · exact .inl h1
  · exact .inr ⟨hn, im, v, rfl, hk im _ _ _ hg ⟨_, _, rfl⟩, hi⟩
def Sep2 (R1 R2 : AV) : Prop := ∀ im v n im' v' n', R1 = .row (.st im) v 0 n → R2 = .row (.st im') v' 0 n' → im ≠ im'
theorem Sep2.symm {R1 R2 : AV} (h : Sep2 R1 R2) : Sep2 R2 R1 := fun im v n im' v' n' e1 e2 => (h im' v' n' im v n e2 e1).symm
theorem Sep2.nil {R : AV} : Sep2 .nils R := fun _ _ _ _ _ _ e _ => by cases e
def Rows (h : Nat) (σ : AS) (L : List (Nat × AV × List AV)) : Prop := (∀ e ∈ L, Built h σ e.1 e.2.1 e.2.2) ∧ L.Pairwise (fun a b => Sep2 a.2.1 b.2.1)
theorem wokst {ro : Option Nat} {h i : Nat} (hro : ∀ k, ro = some k → k ≤ h) (hi : h ≤ i) : wok ro (.st i) = true := Own.wok ⟨i, rfl, hi⟩ hro
theorem lt_of_get {σ : AS} {i : Nat} {ob : AObj} (h : σ.get (.st i) = some ob) : i < σ.st.length := (List.getElem?_eq_some_iff.1 (by simpa [AS.get] using h)).1
theorem get_push' {σ : AS} {i : Nat} {ob ob' : AObj} (h : σ.get (.st i) = some ob) : (σ.push false ob').get (.st i) = some ob := by rw [AS.get_push_old (by rw [h]; rfl), h]
theorem get_set' {σ : AS} {i j : Nat} {ob ob' : AObj} (h : σ.get (.st i) = some ob) (hne : i ≠ j) : (σ.set (.st j) ob').get (.st i) = some ob := by rw [AS.get_set_other (by intro e; exact hne (by cases e; rfl)), h]
theorem get_set_at {σ : AS} {i : Nat} {ob ob' : AObj} (h : σ.get (.st i) = some ob) : (σ.set (.st i) ob').get (.st i) = some ob' := AS.get_set_self (by rw [h]; rfl)
theorem st_ne {σ : AS} {i j : Nat} {ob ob' : AObj} (h : σ.get (.st i) = some ob) (h' : σ.get (.st j) = some ob') (hne : ob ≠ ob') : i ≠ j := by
  rintro rfl; rw [h] at h'; exact hne (Option.some.inj h')
theorem Rows.push {h : Nat} {σ : AS} {L : List (Nat × AV × List AV)} {ob : AObj} (r : Rows h σ L) : Rows h (σ.push false ob) L :=
  ⟨fun e he => (r.1 e he).keep fun _ _ _ _ hg _ => get_push' hg, r.2⟩
theorem Rows.setc {h : Nat} {σ : AS} {L : List (Nat × AV × List AV)} {ob : AObj} {i : Nat} {c : List AV} (r : Rows h σ L) (hi : σ.get (.st i) = some (.cells c)) : Rows h (σ.set (.st i) ob) L :=
  ⟨fun e he => (r.1 e he).keep fun _ _ _ _ hg _ => get_set' hg (st_ne hg hi (by intro e; cases e)), r.2⟩
def AppOk (P : Program) (T sz b : Nat) : Prop := ∃ e xd, elemA P T = some e ∧ P.underlying T = some xd ∧ sizeA P e = some sz ∧ bytesA P e = some b ∧ isSrc xd = true ∧ 0 < sz ∧ (zeroA P e).map (·.cells.length) = some sz
theorem pairwise_set {α : Type} {R : α → α → Prop} {x : α} : ∀ {L : List α} {j : Nat}, L.Pairwise R → (∀ i a, i < j → L[i]? = some a → R a x) → (∀ i a, j < i → L[i]? = some a → R x a) → (L.set j x).Pairwise R
  | [], _, _, _, _ => by simp
  | a :: L, 0, h, _, h2 => by
    rw [List.set_cons_zero, List.pairwise_cons]
    rw [List.pairwise_cons] at h
    refine ⟨fun b hb => ?_, h.2⟩
    obtain ⟨i, hi⟩ := List.mem_iff_getElem?.1 hb
    exact h2 (i + 1) b (by omega) (by simpa using hi)
  | a :: L, j + 1, h, h1, h2 => by
    rw [List.set_cons_succ, List.pairwise_cons]
    rw [List.pairwise_cons] at h
    refine ⟨fun b hb => ?_, pairwise_set h.2 (fun i b hi hb => h1 (i + 1) b (by omega) (by simpa using hb)) (fun i b hi hb => h2 (i + 1) b (by omega) (by simpa using hb))⟩
    rcases List.mem_or_eq_of_mem_set hb with hb | rfl
    · exact h.1 b hb
    · exact h1 0 a (by omega) rfl
theorem Rows.put {h : Nat} {σ' : AS} {L : List (Nat × AV × List AV)} {j sz : Nat} {R' : AV} {l' : List AV} (hb : Built h σ' sz R' l') (hk : ∀ i e, i ≠ j → L[i]? = some e → Built h σ' e.1 e.2.1 e.2.2) (hp : L.Pairwise (fun a b => Sep2 a.2.1 b.2.1)) (hs : ∀ i e, i ≠ j → L[i]? = some e → Sep2 e.2.1 R') :
    Rows h σ' (L.set j (sz, R', l')) := by
  refine ⟨fun e he => ?_, pairwise_set hp (fun i a hi ha => hs i a (by omega) ha) (fun i a hi ha => (hs i a (by omega) ha).symm)⟩
  obtain ⟨i, hi⟩ := List.mem_iff_getElem?.1 he
  by_cases hij : j = i
  · subst hij
    rw [List.getElem?_set_self' ] at hi
    cases hl : L[j]? with
    | none => rw [hl] at hi; cases hi
    | some a => rw [hl] at hi; cases hi; exact hb
  · rw [List.getElem?_set_ne hij] at hi
    exact hk i e (fun h => hij h.symm) hi
theorem append_one {P : Program} {cx : Cx} {h : Nat} {σ : AS} {L : List (Nat × AV × List AV)} {j sz b T : Nat} {R x : AV} {l : List AV} (hT : AppOk P T sz b) (hR : Rows h σ L) (hj : L[j]? = some (sz, R, l)) (hl : l.length ≤ 1000) (hb : b ≤ 1000000) (hro : ∀ k, cx.ro = some k → k ≤ h) (hh : h ≤ σ.st.length) :
    ∃ R' σ', appendA P cx (σ.push false (.row [x] sz 0 false)) [T, T] R (.row (.st σ.st.length) 0 0 1) = some (R', σ') ∧ R'.one = true ∧ Rows h σ' (L.set j (sz, R', l ++ [x])) ∧ (∀ i c, σ.get (.st i) = some (.cells c) → σ'.get (.st i) = some (.cells c)) ∧ (∀ σ0, Outside h σ0 σ → Outside h σ0 σ') := by
  obtain ⟨e, xd, t1, t2, t3, t4, t5, t6, t7⟩ := hT
  have he : elemsA (σ.push false (.row [x] sz 0 false)) sz (.row (.st σ.st.length) 0 0 1) = some [x] := by
    simp [elemsA, AS.get_push_at]
  have hB := hR.1 _ (List.mem_of_getElem? hj)
  rcases hB with ⟨h1, h2⟩ | ⟨hn, im, v, h1, hg, hi⟩
  · simp only at h1 h2
    subst h1 h2
    refine ⟨.row (.st (σ.st.length + 1)) 0 0 1, (σ.push false (.row [x] sz 0 false)).push false (.row [x] sz 0 false), ?_, rfl, ?_, fun i c hc => get_push' (get_push' hc), fun σ0 o => (o.push).push⟩
    · have hby : bytesOk 1 b = true := by simp only [bytesOk, decide_eq_true_eq]; omega
      simp [appendA, t1, t2, t3, t4, t5, t6, t7, he, hby, AS.next_st', AS.push_len]
    · refine Rows.put (.inr ⟨by simp, σ.st.length + 1, 0, rfl, AS.get_push_at (by rw [AS.push_len]), by omega⟩) (fun i e _ hi => ((hR.push).push).1 e (List.mem_of_getElem? hi)) hR.2 fun i e _ hi => ?_
      intro im v n im' v' n' e1 e2
      cases e2
      rcases hR.1 e (List.mem_of_getElem? hi) with ⟨h3, _⟩ | ⟨_, im2, v2, h3, hg2, _⟩
      · rw [h3] at e1; cases e1
      · rw [h3] at e1
        cases e1
        have := lt_of_get hg2
        omega
  · simp only at h1 hg
    subst h1
    refine ⟨.row (.st im) (v + 1) 0 (l.length + 1), (σ.push false (.row [x] sz 0 false)).set (.st im) (.row (l ++ [x]) sz (v + 1) false), ?_, rfl, ?_, fun i c hc => get_set' (get_push' hc) (st_ne hc hg (by intro e; cases e)), fun σ0 o => (o.push).set ⟨_, rfl, hi⟩⟩
    · have hby : bytesOk (l.length + 1) b = true := by
        simp only [bytesOk, decide_eq_true_eq]
        have : (l.length + 1) * b ≤ 1001 * 1000000 := Nat.mul_le_mul (by omega) hb
        omega
      have hg' := get_push' (ob' := .row [x] sz 0 false) hg
      simp [appendA, t1, t2, t3, t4, t5, t6, t7, he, hby, hg', wokst hro hi, show ¬ l.length + 1 ≤ l.length by omega]
    · have hsep : ∀ i e, i ≠ j → L[i]? = some e → Sep2 e.2.1 (.row (.st im) v 0 l.length) := by
        intro i e hij hie
        have hp := hR.2
        rw [List.pairwise_iff_getElem] at hp
        obtain ⟨hi1, hi2⟩ := List.getElem?_eq_some_iff.1 hie
        obtain ⟨hj1, hj2⟩ := List.getElem?_eq_some_iff.1 hj
        rcases Nat.lt_or_gt_of_ne hij with hlt | hgt
        · have := hp i j hi1 hj1 hlt
          rw [hi2, hj2] at this
          exact this
        · have := hp j i hj1 hi1 hgt
          rw [hi2, hj2] at this
          exact this.symm
      refine Rows.put (.inr ⟨by simp, im, v + 1, by simp, get_set_at (get_push' hg), hi⟩) (fun i e hij hie => ?_) hR.2 fun i e hij hie => ?_
      · refine (hR.1 e (List.mem_of_getElem? hie)).keep fun im' es s v' hg' ⟨w', n', hR'⟩ => get_set' (get_push' hg') ?_
        exact hsep i e hij hie im' w' n' im v _ hR' rfl
      · intro im1 v1 n1 im' v' n' e1 e2
        cases e2
        exact hsep i e hij hie im1 v1 n1 im v _ e1 rfl
theorem ev_tmp {env : Env} {t : Nat} {v : AV} (h : Env.get env t = v) : ev env (.tmp t) = some v := by simp [ev, h]
def isSl (sz : Nat) (p : AV → Prop) (X : AV) : Prop := X = .nils ∨ ∃ es, X = .sl false sz es ∧ es.length ≤ 9223372036854775807 ∧ ∀ e ∈ es, p e
theorem isSl.one {sz : Nat} {p : AV → Prop} {X : AV} (h : isSl sz p X) : X.one = true := by rcases h with rfl | ⟨es, rfl, _⟩ <;> rfl
theorem isSl.plain {sz : Nat} {p : AV → Prop} {X : AV} (h : isSl sz p X) : Plain X := by rcases h with rfl | ⟨es, rfl, _⟩ <;> exact ⟨rfl, fun _ => rfl, rfl⟩
theorem wr_ok {n : Int} (h1 : -9223372036854775808 ≤ n) (h2 : n ≤ 9223372036854775807) : wr .i64 n = n := by simp [wr, loK, hiK, h1, h2]
end Go.Abs
end
section
namespace Go.Abs
structure LoopI (N : Nat) (S : List Nat) (env0 : Env) (ti : Nat) (W : Nat → AS → Prop) (k m : Nat) (st : St) : Prop where
  len : st.1.length = N
  keep : ∀ i ∈ S, Env.get st.1 i = Env.get env0 i
  ix : Env.get st.1 ti = .int .i64 (k : Int)
  w : W m st.2
section
variable {N ti : Nat} {S V : List Nat} {env0 : Env} {W : Nat → AS → Prop} {k m : Nat}
theorem LoopI.frame {env env' : Env} {σ : AS} (I : LoopI N S env0 ti W k m (env, σ)) (hl : env'.length = N) (hf : ∀ i, i ∉ V → Env.get env' i = Env.get env i) (hV : ti ∉ V ∧ ∀ i ∈ S, i ∉ V) : LoopI N S env0 ti W k m (env', σ) :=
  ⟨hl, fun i hi => by simp only; rw [hf i (hV.2 i hi)]; exact I.keep i hi, by simp only; rw [hf ti hV.1]; exact I.ix, I.w⟩
variable {P : Program} {cx : Cx} {tails : List Nat} {call : Caller}
theorem conv_loop {test body inc : Code} {tc tl B n : Nat} {VT VI : List Nat} (hS : tl ∈ S) (hln : Env.get env0 tl = .int .i64 (n : Int)) (hn : n ≤ 9223372036854775807)
    (hT : ∀ (env : Env) (σ : AS) (k : Nat), env.length = N → Env.get env ti = .int .i64 (k : Int) → Env.get env tl = .int .i64 (n : Int) → ∃ env', execW P cx tails call test (env, σ) = some (.normal, (env', σ)) ∧ env'.length = N ∧ Env.get env' tc = .bool (decide (k < n)) ∧ ∀ i, i ∉ VT → Env.get env' i = Env.get env i)
    (hVT : ti ∉ VT ∧ ∀ i ∈ S, i ∉ VT)
    (hB : ∀ (k : Nat) (env : Env) (σ : AS), k < n → LoopI N S env0 ti W k k (env, σ) → ∃ st', execW P cx tails call body (env, σ) = some (.normal, st') ∧ LoopI N S env0 ti W k (k + 1) st')
    (hI : ∀ (env : Env) (σ : AS) (k : Nat), env.length = N → Env.get env ti = .int .i64 (k : Int) → wr .i64 ((k : Int) + 1) = (k : Int) + 1 → ∃ env', execW P cx tails call inc (env, σ) = some (.normal, (env', σ)) ∧ env'.length = N ∧ Env.get env' ti = .int .i64 ((k : Int) + 1) ∧ ∀ i, i ∉ VI → Env.get env' i = Env.get env i)
    (hVI : ∀ i ∈ S, i ∉ VI) {st : St} (h0 : LoopI N S env0 ti W 0 0 st) :
    ∃ st', execW P cx tails call (.block B (.loop (.seq test (.seq (.cond (.tmp tc) .skip (.exit B)) (.seq body inc))))) st = some (.normal, st') ∧ LoopI N S env0 ti W n n st' := by
  refine execW_range (n := n) (Inv := fun k st => LoopI N S env0 ti W k k st) (Mid := fun k st => LoopI N S env0 ti W k k st) (Mid2 := fun k st => LoopI N S env0 ti W k (k + 1) st) ?_ ?_ ?_ h0
  · rintro k ⟨env, σ⟩ hkn I
    obtain ⟨env', e1, e2, e3, e4⟩ := hT env σ k I.len I.ix (by rw [I.keep tl hS]; exact hln)
    have I' := I.frame e2 e4 hVT
    refine ⟨(env', σ), e1, ev_tmp e3, fun _ => I', fun h => ?_⟩
    have : k = n := by omega
    subst this
    exact I'
  · rintro k ⟨env, σ⟩ hk I
    exact hB k env σ hk I
  · rintro k ⟨env, σ⟩ hk I
    obtain ⟨env', e1, e2, e3, e4⟩ := hI env σ k I.len I.ix (wr_ok (by omega) (by omega))
    exact ⟨(env', σ), e1, e2, fun i hi => by simp only; rw [e4 i (hVI i hi)]; exact I.keep i hi, by simpa using e3, I.w⟩
theorem conv_body {elemR cutR app : Code} {es : List AV} {sz ts tb tk tc cut B : Nat} {VE VC VA : List Nat} (hS : ts ∈ S) (hsl : es = [] ∨ Env.get env0 ts = .sl false sz es)
    (hE : ∀ (env : Env) (σ : AS) (k : Nat) (hk : k < es.length), env.length = N → Env.get env ts = .sl false sz es → Env.get env ti = .int .i64 (k : Int) → cx.h ≤ σ.st.length → ∃ env', execW P cx tails call elemR (env, σ) = some (.normal, (env', σ.push false (.cells es[k].cells))) ∧ env'.length = N ∧ (Env.get env' tb = .ptr (.st σ.st.length) 0 ∧ Env.get env' tk = .int .i64 (k : Int)) ∧ ∀ i, i ∉ VE → Env.get env' i = Env.get env i)
    (hVE : ti ∉ VE ∧ ∀ i ∈ S, i ∉ VE)
    (hC : ∀ (env : Env) (σ : AS) (k : Nat), env.length = N → Env.get env tk = .int .i64 (k : Int) → ∃ env', execW P cx tails call cutR (env, σ) = some (.normal, (env', σ)) ∧ env'.length = N ∧ Env.get env' tc = .bool (decide ((k : Int) < cut)) ∧ ∀ i, i ∉ VC → Env.get env' i = Env.get env i)
    (hVC : ti ∉ VC ∧ ∀ i ∈ S, i ∉ VC) (hbC : tb ∉ VC)
    (hA : ∀ (env : Env) (σ : AS) (e : AV) (m : Nat), e ∈ es → env.length = N → (∀ i ∈ S, Env.get env i = Env.get env0 i) → Env.get env tb = .ptr (.st σ.st.length) 0 → W m σ → m < cut → ∃ env' σ', execW P cx tails call app (env, σ.push false (.cells e.cells)) = some (.normal, (env', σ')) ∧ env'.length = N ∧ W (m + 1) σ' ∧ ∀ i, i ∉ VA → Env.get env' i = Env.get env i)
    (hVA : ti ∉ VA ∧ ∀ i ∈ S, i ∉ VA)
    (hpush : ∀ m σ ob, W m σ → W m (σ.push false ob)) (hmono : ∀ m σ, W m σ → W (m + 1) σ) (hlenW : ∀ m σ, W m σ → cx.h ≤ σ.st.length) :
    ∀ (k : Nat) (env : Env) (σ : AS), k < es.length → LoopI N S env0 ti W k k (env, σ) → ∃ st', execW P cx tails call (.block B (.seq elemR (.seq cutR (.cond (.tmp tc) app .skip)))) (env, σ) = some (.normal, st') ∧ LoopI N S env0 ti W k (k + 1) st' := by
  intro k env σ hk I
  have hts : Env.get env ts = .sl false sz es := by
    have h1 := I.keep ts hS
    simp only at h1
    rw [h1]
    rcases hsl with rfl | h
    · cases hk
    · exact h
  obtain ⟨env1, a1, a2, a3, a4⟩ := hE env σ k hk I.len hts I.ix (hlenW _ _ I.w)
  obtain ⟨env2, b1, b2, b3, b4⟩ := hC env1 (σ.push false (.cells es[k].cells)) k a2 a3.2
  have I1 : LoopI N S env0 ti W k k (env1, σ) := I.frame a2 a4 hVE
  have I2 : LoopI N S env0 ti W k k (env2, σ) := I1.frame b2 b4 hVC
  by_cases hc : (k : Int) < cut
  · obtain ⟨env3, σ3, c1, c2, c3, c4⟩ := hA env2 σ es[k] k (List.getElem_mem hk) I2.len I2.keep (by rw [b4 tb hbC]; exact a3.1) I2.w (by omega)
    refine ⟨(env3, σ3), execW_block_of (execW_seq_of a1 (execW_seq_of b1 (execW_cond_t (by rw [ev_tmp b3, decide_eq_true hc]) c1))), c2, fun i hi => ?_, ?_, c3⟩
    · simp only; rw [c4 i (hVA.2 i hi)]; exact I2.keep i hi
    · simp only; rw [c4 ti hVA.1]; exact I2.ix
  · exact ⟨(env2, σ.push false (.cells es[k].cells)), execW_block_of (execW_seq_of a1 (execW_seq_of b1 (execW_cond_f (by rw [ev_tmp b3, decide_eq_false hc]) rfl))), I2.len, I2.keep, I2.ix, hmono _ _ (hpush _ _ _ I2.w)⟩
end
end Go.Abs
end
section
namespace Go.Abs
section
variable (P : Program) (cx : Cx) (tails : List Nat) (call : Caller)
def seqVK (all os : List Oper) (env : Env) (σ : AS) (d : Option Tmp) (v : AV) : Option (Env × AS) := seqA P cx call all os (putE env d v) σ
def seqEK (all os : List Oper) (env : Env) (d : Option Tmp) (r : AV × AS) : Option (Env × AS) := seqA P cx call all os (putE env d r.1) r.2
def quietK (σ : AS) (all os : List Oper) (env : Env) (o : Oper) (ns nh : List AObj) : AV × Option AObj → Option (Env × List AObj × List AObj)
  | (v, none) => quietA P cx call σ all os (putE env o.dst v) ns nh
  | (v, some ob) => if escNew cx o = true then quietA P cx call σ all os (putE env o.dst v) ns (nh ++ [ob]) else quietA P cx call σ all os (putE env o.dst v) (ns ++ [ob]) nh
def tailK (ops os : List Oper) (σ : AS) (r : Env × List AObj × List AObj) : Option (Env × AS) :=
  if (r.2.2.isEmpty || cx.ro.isNone) = true then seqA P cx call ops os r.1 { hp := σ.hp ++ r.2.2, st := σ.st ++ r.2.1 } else none
noncomputable def seqK (b : Code) : AExit × St → Option (AExit × St)
  | (.normal, st) => execW P cx tails call b st
  | r => some r
noncomputable def condK (x y : Code) (st : St) : AV → Option (AExit × St)
  | .bool true => execW P cx tails call x st
  | .bool false => execW P cx tails call y st
  | _ => none
def blockK (id : Nat) : AExit × St → Option (AExit × St)
  | (.exit i, st) => if i = id then some (.normal, st) else some (.exit i, st)
  | r => some r
def regK (st : St) : Option (AExit × St) := some (.normal, st)
def backK (h : Nat) (σ : AS) (v : AV) : Option (AV × AS) := if v.inb h = true then some (v, { σ with st := σ.st.take h }) else none
def retK (fl : Flags) (h : Nat) (σ : AS) (vs : List AV) : Option (AV × AS) := if fl.keep = true then some (oneA vs, σ) else ((oneA vs).back h σ).bind (backK h σ)
def finK (fl : Flags) (fn : Func) (h : Nat) : AExit × St → Option (AV × AS)
  | (.exit _, _) => none
  | (_, env, σ) => (resA P σ env fn.results.toList).bind (retK fl h σ)
end
section
variable {P : Program} {cx : Cx} {tails : List Nat} {call : Caller} {all os : List Oper} {o : Oper} {env : Env} {σ : AS} {ns nh : List AObj} {st : St} {a b x y : Code} {v : AV} {id i h : Nat}
theorem seqA_nil : seqA P cx call all [] env σ = some (env, σ) := rfl
theorem seqA_cons : seqA P cx call all (o :: os) env σ = if wantedA all env o = true then (if isVal P o = true then (if optsA env o = true then (valA P σ env o).bind (seqVK P cx call all os env σ o.dst) else none) else (effA P cx call σ env o).bind (seqEK P cx call all os env o.dst)) else seqA P cx call all os (putE env o.dst (.tup [])) σ := by
  simp only [seqA]
  split
  · split
    · split
      · cases valA P σ env o <;> rfl
      · rfl
    · cases effA P cx call σ env o <;> rfl
  · rfl
theorem seqVK_eq {d : Option Tmp} : seqVK P cx call all os env σ d v = seqA P cx call all os (putE env d v) σ := rfl
theorem seqEK_eq {d : Option Tmp} : seqEK P cx call all os env d (v, σ) = seqA P cx call all os (putE env d v) σ := rfl
theorem quietA_nil : quietA P cx call σ all [] env ns nh = some (env, ns, nh) := rfl
theorem quietA_cons : quietA P cx call σ all (o :: os) env ns nh = (qstep P cx call σ all ns.length nh.length env o).bind (quietK P cx call σ all os env o ns nh) := by
  simp only [quietA]
  cases qstep P cx call σ all ns.length nh.length env o with
  | none => rfl
  | some r => obtain ⟨v, ob⟩ := r; cases ob <;> rfl
theorem quietK_none : quietK P cx call σ all os env o ns nh (v, none) = quietA P cx call σ all os (putE env o.dst v) ns nh := rfl
theorem quietK_some {ob : AObj} : quietK P cx call σ all os env o ns nh (v, some ob) = if escNew cx o = true then quietA P cx call σ all os (putE env o.dst v) ns (nh ++ [ob]) else quietA P cx call σ all os (putE env o.dst v) (ns ++ [ob]) nh := rfl
theorem regionA_plain : regionA P cx tails call id os false env σ = seqA P cx call os os env σ := by simp [regionA]
theorem regionA_quiet (h1 : tails.contains (id + 1000000) = false) (h2 : tails.contains (id + 2000000) = false) : regionA P cx tails call id os true env σ = (quietA P cx call σ os (os.take (quietN P (tmode tails id) os)) env [] []).bind (tailK P cx call os (os.drop (quietN P (tmode tails id) os)) σ) := by
  simp only [regionA, h1, h2, if_true, Bool.false_eq_true, if_false]
  cases quietA P cx call σ os (os.take (quietN P (tmode tails id) os)) env [] [] with
  | none => rfl
  | some r => rfl
theorem regionA_quiet0 : regionA P cx [] call id os true env σ = (quietA P cx call σ os (os.take (quietN P 0 os)) env [] []).bind (tailK P cx call os (os.drop (quietN P 0 os)) σ) := regionA_quiet rfl rfl
theorem regionA_quietM {m : Nat} (h1 : tails.contains (id + 1000000) = false) (h2 : tails.contains (id + 2000000) = false) (h3 : tmode tails id = m) : regionA P cx tails call id os true env σ = (quietA P cx call σ os (os.take (quietN P m os)) env [] []).bind (tailK P cx call os (os.drop (quietN P m os)) σ) := by rw [regionA_quiet h1 h2, h3]
theorem tailK_eq {ops : List Oper} : tailK P cx call ops os σ (env, ns, nh) = if (nh.isEmpty || cx.ro.isNone) = true then seqA P cx call ops os env { hp := σ.hp ++ nh, st := σ.st ++ ns } else none := rfl
theorem execW_seq_eq : execW P cx tails call (.seq a b) st = (execW P cx tails call a st).bind (seqK P cx tails call b) := by
  simp only [execW]
  cases execW P cx tails call a st with
  | none => rfl
  | some r => obtain ⟨e, s⟩ := r; cases e <;> rfl
theorem seqK_normal : seqK P cx tails call b (.normal, st) = execW P cx tails call b st := rfl
theorem seqK_ret : seqK P cx tails call b (.ret, st) = some (.ret, st) := rfl
theorem seqK_exit : seqK P cx tails call b (.exit i, st) = some (.exit i, st) := rfl
theorem execW_cond_eq {c : Operand} : execW P cx tails call (.cond c x y) st = (ev st.1 c).bind (condK P cx tails call x y st) := by
  simp only [execW]
  cases ev st.1 c with
  | none => rfl
  | some v => cases v <;> first | rfl | (rename_i b; cases b <;> rfl)
theorem condK_true : condK P cx tails call x y st (.bool true) = execW P cx tails call x st := rfl
theorem condK_false : condK P cx tails call x y st (.bool false) = execW P cx tails call y st := rfl
theorem condK_if {b : Bool} : condK P cx tails call x y st (.bool b) = if b = true then execW P cx tails call x st else execW P cx tails call y st := by cases b <;> rfl
theorem execW_block_eq : execW P cx tails call (.block id a) st = (execW P cx tails call a st).bind (blockK id) := by
  simp only [execW]
  cases execW P cx tails call a st with
  | none => rfl
  | some r => obtain ⟨e, s⟩ := r; cases e <;> rfl
theorem blockK_exit : blockK id (.exit i, st) = if i = id then some (.normal, st) else some (.exit i, st) := rfl
theorem blockK_normal : blockK id (.normal, st) = some (.normal, st) := rfl
theorem blockK_ret : blockK id (.ret, st) = some (.ret, st) := rfl
theorem execW_region_eq {ops : Array Oper} {draw : Bool} : execW P cx tails call (.region id ops draw) st = (regionA P cx tails call id ops.toList draw st.1 st.2).bind regK := by
  simp only [execW]
  cases regionA P cx tails call id ops.toList draw st.1 st.2 <;> rfl
theorem regK_eq : regK st = some (.normal, st) := rfl
theorem execW_skip : execW P cx tails call .skip st = some (.normal, st) := rfl
theorem execW_label {l : Nat} : execW P cx tails call (.label l) st = some (.normal, st) := rfl
theorem execW_exit : execW P cx tails call (.exit i) st = some (.exit i, st) := rfl
theorem execW_ret : execW P cx tails call .ret st = some (.ret, st) := rfl
variable {fl : Flags} {fn : Func} {vs : List AV}
theorem finishA_eq {r : Option (AExit × St)} : finishA P fl fn h r = r.bind (finK P fl fn h) := by
  cases r with
  | none => rfl
  | some r =>
    obtain ⟨e, en, s⟩ := r
    cases e with
    | exit i => rfl
    | normal =>
      simp only [finishA, finK, Option.bind_some]
      cases resA P s en fn.results.toList with
      | none => rfl
      | some vs =>
        simp only [Option.bind_some, retK]
        split
        · rfl
        · cases (oneA vs).back h s <;> rfl
    | ret =>
      simp only [finishA, finK, Option.bind_some]
      cases resA P s en fn.results.toList with
      | none => rfl
      | some vs =>
        simp only [Option.bind_some, retK]
        split
        · rfl
        · cases (oneA vs).back h s <;> rfl
theorem finK_ret : finK P fl fn h (.ret, (env, σ)) = (resA P σ env fn.results.toList).bind (retK fl h σ) := rfl
theorem finK_normal : finK P fl fn h (.normal, (env, σ)) = (resA P σ env fn.results.toList).bind (retK fl h σ) := rfl
theorem retK_eq (hk : fl.keep = false) : retK fl h σ vs = ((oneA vs).back h σ).bind (backK h σ) := by simp [retK, hk]
theorem backK_eq (hv : v.inb h = true) : backK h σ v = some (v, { σ with st := σ.st.take h }) := by simp [backK, hv]
end
section
variable {k : IntKind} {n : Int} {x : ByteArray} {b : Bool} {cs : List AV} {L : Loc} {o v i : Nat} {f : Fn} {y z : List AV} {t : TypeId} {w : AV}
@[simp] theorem isRow_bool : isRow (.bool b) = false := rfl
@[simp] theorem isRow_int : isRow (.int k n) = false := rfl
@[simp] theorem isRow_str : isRow (.str x) = false := rfl
@[simp] theorem isRow_nilp : isRow .nilp = false := rfl
@[simp] theorem isRow_ptr : isRow (.ptr L o) = false := rfl
@[simp] theorem isRow_rptr : isRow (.rptr cs o) = false := rfl
@[simp] theorem isRow_eptr : isRow (.eptr L v i o) = false := rfl
@[simp] theorem isRow_nils : isRow .nils = false := rfl
@[simp] theorem isRow_sl : isRow (.sl b o cs) = false := rfl
@[simp] theorem isRow_row : isRow (.row L v i o) = true := rfl
@[simp] theorem isRow_nilm : isRow .nilm = false := rfl
@[simp] theorem isRow_map : isRow (.map L) = false := rfl
@[simp] theorem isRow_fn : isRow (.fn f y z) = false := rfl
@[simp] theorem isRow_nilf : isRow .nilf = false := rfl
@[simp] theorem isRow_iface : isRow (.iface t w) = false := rfl
@[simp] theorem isRow_nili : isRow .nili = false := rfl
@[simp] theorem isRow_agg : isRow (.agg cs) = false := rfl
@[simp] theorem isRow_tup : isRow (.tup cs) = false := rfl
end
end Go.Abs
end
section
namespace Go.Abs
open Go.ChangeShapes Go.WideShapes Go.ChangeAt Go.RowKit
theorem law_lifted_laid {C : Checked} {how : FuncId → Option How} (hm : C.prog.follows .mixedOrders = true) (hw : HowOk C.prog how) (k : Nat) {f : FuncId} {fn : Func} {s : ChangeSpec} {laid : List (String × DataW Unit)} (os : Os) (started : os.Started) {H : Type} {enc : TypeId × Value → H}
    (own : ownKnob C.prog.godebug = none) (noInit : C.prog.inits.idxOf? f = none) (hfn : C.prog.funcs[f]? = some fn) (hl : laidOutB C.prog = true) (hsh : shapeOk C.prog k fn = true) (hvars : s.vars = [])
    (hspec : ∀ (H : Type) (ds : List (DataW H)), ds.length = fn.params.size → s.fn H ds = { results := [.lit (.bool true)], args := ds })
    (witness : ∃ (w : World) (tape : Tape) (i : Input), w.os = os ∧ (w.forCall tape i).Shaped C.prog ∧ i.vars = [] ∧ Input.okWide C.prog (w.forCall tape i) .any w.heap.size f i ∧
      ((s.pre enc C.prog fn [] false (w.forCall tape i).memory i.args ∧ laidMetH C.prog laid (w.forCall tape i).memory) ∧ sizedMet enc C.prog fn (OpenSpec.ofChange s) false (w.forCall tape i).memory i.args) ∧ (({} : Assume)).holds C.prog (lone (Frame.enter C.prog f i.args .normal) [] (w.forCall tape i)))
    (hglb : ∀ W, laidMetH C.prog laid W → GlbOk W) (hrun : ∀ cs, hasTs C.prog k fn.params.toList cs → ∃ n σ', callN C.prog how n f cs ⟨[], []⟩ none = some (.bool true, σ')) :
    ReturnsInHanded {} C os f .any (fun w args => (s.pre enc C.prog fn [] false w args ∧ laidMetH C.prog laid w) ∧ sizedMet enc C.prog fn (OpenSpec.ofChange s) false w args) (s.post enc C.prog fn false true false false) := by
  refine returnsInHanded_of_change_and (C := C) (X := fun w _ => laidMetH C.prog laid w) (fun _ _ _ hh h => h.of_heap hh) own started noInit hfn witness ?_
  intro W base args ds gs before hval hW _ _ hL _
  have hW' := hW
  obtain ⟨p, q, hA, hV, hpq, _⟩ := hW
  have hsh' := hsh
  simp only [shapeOk, Bool.and_eq_true] at hsh
  obtain ⟨cs, c1, c2, c3⟩ := args_read fn.params.toList args.toList ds p hsh.1.1 (fun j t v hj hv => hval j t v (by simpa using hj) (by simpa using hv)) hA
  obtain ⟨n, σ', hr⟩ := hrun cs c2
  exact (calls_of_abs hm hw (hglb W hL) c1 hr).mono fun e W' ⟨he, hb⟩ => ⟨_, he, law_post hl hsh' hvars hspec hW' (by simpa using c3) hb⟩
end Go.Abs
end
