/- Rows that a frame builds, append by append; pieces of code by their path. -/
import Derived.Test.YtjhgheheopcolaaGreatAbs44
set_option linter.unusedVariables false
set_option linter.unusedSimpArgs false
namespace Go.Abs
inductive Dir | l | r | i
noncomputable def sub : List Dir → Code → Code
  | [], c => c
  | .l :: d, .seq a _ => sub d a
  | .r :: d, .seq _ b => sub d b
  | .l :: d, .cond _ a _ => sub d a
  | .r :: d, .cond _ _ b => sub d b
  | .i :: d, .block _ c => sub d c
  | .i :: d, .loop c => sub d c
  | _, _ => .skip
noncomputable def bodyOf (f : Func) : Code := f.body.getD .skip
/-- A slice that the frame has built: nil, or a row of its own. -/
def Built (h : Nat) (σ : AS) (sz : Nat) (R : AV) (l : List AV) : Prop :=
  (R = .nils ∧ l = []) ∨ (l ≠ [] ∧ ∃ im v, R = .row (.st im) v 0 l.length ∧ σ.get (.st im) = some (.row l sz v false) ∧ h ≤ im)
def slV (sz : Nat) (l : List AV) : AV := if l.isEmpty = true then .nils else .sl false sz l
theorem slV_plain {sz : Nat} {l : List AV} : Plain (slV sz l) := by
  unfold slV
  split
  · exact ⟨rfl, fun _ => rfl, rfl⟩
  · exact ⟨rfl, fun _ => rfl, rfl⟩
theorem Built.one {h : Nat} {σ : AS} {sz : Nat} {R : AV} {l : List AV} (b : Built h σ sz R l) : R.one = true := by
  rcases b with ⟨rfl, _⟩ | ⟨_, im, v, rfl, _⟩ <;> rfl
theorem Built.back {h : Nat} {σ : AS} {sz : Nat} {R : AV} {l : List AV} (b : Built h σ sz R l) : R.back h σ = some (slV sz l) := by
  rcases b with ⟨rfl, rfl⟩ | ⟨hn, im, v, rfl, hg, hi⟩
  · rfl
  · have hg' : σ.st[im]? = some (.row l sz v false) := hg
    have : l.isEmpty = false := by cases l <;> simp_all
    simp [AV.back, hg', Nat.not_lt.2 hi, slV, this]
/-- A built slice stays built where its row stays. -/
theorem Built.keep {h : Nat} {σ σ' : AS} {sz : Nat} {R : AV} {l : List AV} (b : Built h σ sz R l) (hk : ∀ im es s v, σ.get (.st im) = some (.row es s v false) → (∃ w n, R = .row (.st im) w 0 n) → σ'.get (.st im) = some (.row es s v false)) : Built h σ' sz R l := by
  rcases b with h1 | ⟨hn, im, v, rfl, hg, hi⟩
  · exact .inl h1
  · exact .inr ⟨hn, im, v, rfl, hk im _ _ _ hg ⟨_, _, rfl⟩, hi⟩
def Sep2 (R1 R2 : AV) : Prop := ∀ im v n im' v' n', R1 = .row (.st im) v 0 n → R2 = .row (.st im') v' 0 n' → im ≠ im'
theorem Sep2.symm {R1 R2 : AV} (h : Sep2 R1 R2) : Sep2 R2 R1 := fun im v n im' v' n' e1 e2 => (h im' v' n' im v n e2 e1).symm
theorem Sep2.nil {R : AV} : Sep2 .nils R := fun _ _ _ _ _ _ e _ => by cases e
/-- Rows of a frame, each by itself. -/
def Rows (h : Nat) (σ : AS) (L : List (Nat × AV × List AV)) : Prop := (∀ e ∈ L, Built h σ e.1 e.2.1 e.2.2) ∧ L.Pairwise (fun a b => Sep2 a.2.1 b.2.1)
theorem wokst {ro : Option Nat} {h i : Nat} (hro : ∀ k, ro = some k → k ≤ h) (hi : h ≤ i) : wok ro (.st i) = true := Own.wok ⟨i, rfl, hi⟩ hro
theorem lt_of_get {σ : AS} {i : Nat} {ob : AObj} (h : σ.get (.st i) = some ob) : i < σ.st.length := (List.getElem?_eq_some_iff.1 (by simpa [AS.get] using h)).1
theorem get_push' {σ : AS} {i : Nat} {ob ob' : AObj} (h : σ.get (.st i) = some ob) : (σ.push false ob').get (.st i) = some ob := by rw [AS.get_push_old (by rw [h]; rfl), h]
theorem get_set' {σ : AS} {i j : Nat} {ob ob' : AObj} (h : σ.get (.st i) = some ob) (hne : i ≠ j) : (σ.set (.st j) ob').get (.st i) = some ob := by rw [AS.get_set_other (by intro e; exact hne (by cases e; rfl)), h]
theorem get_set_at {σ : AS} {i : Nat} {ob ob' : AObj} (h : σ.get (.st i) = some ob) : (σ.set (.st i) ob').get (.st i) = some ob' := AS.get_set_self (by rw [h]; rfl)
theorem st_ne {σ : AS} {i j : Nat} {ob ob' : AObj} (h : σ.get (.st i) = some ob) (h' : σ.get (.st j) = some ob') (hne : ob ≠ ob') : i ≠ j := by
  rintro rfl; rw [h] at h'; exact hne (Option.some.inj h')
theorem Rows.push {h : Nat} {σ : AS} {L : List (Nat × AV × List AV)} {ob : AObj} (r : Rows h σ L) : Rows h (σ.push false ob) L :=
  ⟨fun e he => (r.1 e he).keep fun _ _ _ _ hg _ => get_push' hg, r.2⟩
theorem Rows.setc {h : Nat} {σ : AS} {L : List (Nat × AV × List AV)} {ob : AObj} {i : Nat} {c : List AV} (r : Rows h σ L) (hi : σ.get (.st i) = some (.cells c)) : Rows h (σ.set (.st i) ob) L :=
  ⟨fun e he => (r.1 e he).keep fun _ _ _ _ hg _ => get_set' hg (st_ne hg hi (by intro e; cases e)), r.2⟩
/-- A slice's type, its elements' size and bytes. -/
def AppOk (P : Program) (T sz b : Nat) : Prop := ∃ e xd, elemA P T = some e ∧ P.underlying T = some xd ∧ sizeA P e = some sz ∧ bytesA P e = some b ∧ isSrc xd = true ∧ 0 < sz ∧ (zeroA P e).map (·.cells.length) = some sz
theorem pairwise_set {α : Type} {R : α → α → Prop} {x : α} : ∀ {L : List α} {j : Nat}, L.Pairwise R → (∀ i a, i < j → L[i]? = some a → R a x) → (∀ i a, j < i → L[i]? = some a → R x a) → (L.set j x).Pairwise R
  | [], _, _, _, _ => by simp
  | a :: L, 0, h, _, h2 => by
    rw [List.set_cons_zero, List.pairwise_cons]
    rw [List.pairwise_cons] at h
    refine ⟨fun b hb => ?_, h.2⟩
    obtain ⟨i, hi⟩ := List.mem_iff_getElem?.1 hb
    exact h2 (i + 1) b (by omega) (by simpa using hi)
  | a :: L, j + 1, h, h1, h2 => by
    rw [List.set_cons_succ, List.pairwise_cons]
    rw [List.pairwise_cons] at h
    refine ⟨fun b hb => ?_, pairwise_set h.2 (fun i b hi hb => h1 (i + 1) b (by omega) (by simpa using hb)) (fun i b hi hb => h2 (i + 1) b (by omega) (by simpa using hb))⟩
    rcases List.mem_or_eq_of_mem_set hb with hb | rfl
    · exact h.1 b hb
    · exact h1 0 a (by omega) rfl
theorem Rows.put {h : Nat} {σ' : AS} {L : List (Nat × AV × List AV)} {j sz : Nat} {R' : AV} {l' : List AV} (hb : Built h σ' sz R' l') (hk : ∀ i e, i ≠ j → L[i]? = some e → Built h σ' e.1 e.2.1 e.2.2) (hp : L.Pairwise (fun a b => Sep2 a.2.1 b.2.1)) (hs : ∀ i e, i ≠ j → L[i]? = some e → Sep2 e.2.1 R') :
    Rows h σ' (L.set j (sz, R', l')) := by
  refine ⟨fun e he => ?_, pairwise_set hp (fun i a hi ha => hs i a (by omega) ha) (fun i a hi ha => (hs i a (by omega) ha).symm)⟩
  obtain ⟨i, hi⟩ := List.mem_iff_getElem?.1 he
  by_cases hij : j = i
  · subst hij
    rw [List.getElem?_set_self' ] at hi
    cases hl : L[j]? with
    | none => rw [hl] at hi; cases hi
    | some a => rw [hl] at hi; cases hi; exact hb
  · rw [List.getElem?_set_ne hij] at hi
    exact hk i e (fun h => hij h.symm) hi
theorem append_one {P : Program} {cx : Cx} {h : Nat} {σ : AS} {L : List (Nat × AV × List AV)} {j sz b T : Nat} {R x : AV} {l : List AV} (hT : AppOk P T sz b) (hR : Rows h σ L) (hj : L[j]? = some (sz, R, l)) (hl : l.length ≤ 1000) (hb : b ≤ 1000000) (hro : ∀ k, cx.ro = some k → k ≤ h) (hh : h ≤ σ.st.length) :
    ∃ R' σ', appendA P cx (σ.push false (.row [x] sz 0 false)) [T, T] R (.row (.st σ.st.length) 0 0 1) = some (R', σ') ∧ R'.one = true ∧ Rows h σ' (L.set j (sz, R', l ++ [x])) ∧ (∀ i c, σ.get (.st i) = some (.cells c) → σ'.get (.st i) = some (.cells c)) ∧ (∀ σ0, Outside h σ0 σ → Outside h σ0 σ') := by
  obtain ⟨e, xd, t1, t2, t3, t4, t5, t6, t7⟩ := hT
  have he : elemsA (σ.push false (.row [x] sz 0 false)) sz (.row (.st σ.st.length) 0 0 1) = some [x] := by
    simp [elemsA, AS.get_push_at]
  have hB := hR.1 _ (List.mem_of_getElem? hj)
  rcases hB with ⟨h1, h2⟩ | ⟨hn, im, v, h1, hg, hi⟩
  · simp only at h1 h2
    subst h1 h2
    refine ⟨.row (.st (σ.st.length + 1)) 0 0 1, (σ.push false (.row [x] sz 0 false)).push false (.row [x] sz 0 false), ?_, rfl, ?_, fun i c hc => get_push' (get_push' hc), fun σ0 o => (o.push).push⟩
    · have hby : bytesOk 1 b = true := by simp only [bytesOk, decide_eq_true_eq]; omega
      simp [appendA, t1, t2, t3, t4, t5, t6, t7, he, hby, AS.next_st', AS.push_len]
    · refine Rows.put (.inr ⟨by simp, σ.st.length + 1, 0, rfl, AS.get_push_at (by rw [AS.push_len]), by omega⟩) (fun i e _ hi => ((hR.push).push).1 e (List.mem_of_getElem? hi)) hR.2 fun i e _ hi => ?_
      intro im v n im' v' n' e1 e2
      cases e2
      rcases hR.1 e (List.mem_of_getElem? hi) with ⟨h3, _⟩ | ⟨_, im2, v2, h3, hg2, _⟩
      · rw [h3] at e1; cases e1
      · rw [h3] at e1
        cases e1
        have := lt_of_get hg2
        omega
  · simp only at h1 hg
    subst h1
    refine ⟨.row (.st im) (v + 1) 0 (l.length + 1), (σ.push false (.row [x] sz 0 false)).set (.st im) (.row (l ++ [x]) sz (v + 1) false), ?_, rfl, ?_, fun i c hc => get_set' (get_push' hc) (st_ne hc hg (by intro e; cases e)), fun σ0 o => (o.push).set ⟨_, rfl, hi⟩⟩
    · have hby : bytesOk (l.length + 1) b = true := by
        simp only [bytesOk, decide_eq_true_eq]
        have : (l.length + 1) * b ≤ 1001 * 1000000 := Nat.mul_le_mul (by omega) hb
        omega
      have hg' := get_push' (ob' := .row [x] sz 0 false) hg
      simp [appendA, t1, t2, t3, t4, t5, t6, t7, he, hby, hg', wokst hro hi, show ¬ l.length + 1 ≤ l.length by omega]
    · have hsep : ∀ i e, i ≠ j → L[i]? = some e → Sep2 e.2.1 (.row (.st im) v 0 l.length) := by
        intro i e hij hie
        have hp := hR.2
        rw [List.pairwise_iff_getElem] at hp
        obtain ⟨hi1, hi2⟩ := List.getElem?_eq_some_iff.1 hie
        obtain ⟨hj1, hj2⟩ := List.getElem?_eq_some_iff.1 hj
        rcases Nat.lt_or_gt_of_ne hij with hlt | hgt
        · have := hp i j hi1 hj1 hlt
          rw [hi2, hj2] at this
          exact this
        · have := hp j i hj1 hi1 hgt
          rw [hi2, hj2] at this
          exact this.symm
      refine Rows.put (.inr ⟨by simp, im, v + 1, by simp, get_set_at (get_push' hg), hi⟩) (fun i e hij hie => ?_) hR.2 fun i e hij hie => ?_
      · refine (hR.1 e (List.mem_of_getElem? hie)).keep fun im' es s v' hg' ⟨w', n', hR'⟩ => get_set' (get_push' hg') ?_
        exact hsep i e hij hie im' w' n' im v _ hR' rfl
      · intro im1 v1 n1 im' v' n' e1 e2
        cases e2
        exact hsep i e hij hie im1 v1 n1 im v _ e1 rfl
theorem ev_tmp {env : Env} {t : Nat} {v : AV} (h : Env.get env t = v) : ev env (.tmp t) = some v := by simp [ev, h]
/-- A slice as a caller has it, its elements all such. -/
def isSl (sz : Nat) (p : AV → Prop) (X : AV) : Prop := X = .nils ∨ ∃ es, X = .sl false sz es ∧ es.length ≤ 9223372036854775807 ∧ ∀ e ∈ es, p e
theorem isSl.one {sz : Nat} {p : AV → Prop} {X : AV} (h : isSl sz p X) : X.one = true := by rcases h with rfl | ⟨es, rfl, _⟩ <;> rfl
theorem isSl.plain {sz : Nat} {p : AV → Prop} {X : AV} (h : isSl sz p X) : Plain X := by rcases h with rfl | ⟨es, rfl, _⟩ <;> exact ⟨rfl, fun _ => rfl, rfl⟩
theorem wr_ok {n : Int} (h1 : -9223372036854775808 ≤ n) (h2 : n ≤ 9223372036854775807) : wr .i64 n = n := by simp [wr, loK, hiK, h1, h2]
end Go.Abs
