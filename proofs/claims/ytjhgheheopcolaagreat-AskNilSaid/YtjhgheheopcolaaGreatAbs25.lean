/- Lists of operations that may come in whatever order: one lexical run serves every order. -/
import Derived.Test.YtjhgheheopcolaaGreatAbs24
set_option linter.unusedVariables false
set_option linter.unusedSimpArgs false
namespace Go.Abs

section any
variable {P : Program} {md : Region.Mode} {ops : Array Oper} {S : Type} (step : Nat → S → Option S) (n : Nat)

def anyA (md : Region.Mode) (ops : Array Oper) (fin : Array Bool → S → Prop) : Nat → Array Bool → S → Prop
  | 0, listed, s => fin listed s
  | f + 1, listed, s => Region.ready md ops listed ≠ [] ∧ ∀ i ∈ Region.ready md ops listed, i < n ∧ ∃ s', step i s = some s' ∧ anyA md ops fin f (listed.setIfInBounds i true) s'

theorem anyA_first {fin : Array Bool → S → Prop} {i : Nat} {oi : Oper} (hi : ops[i]? = some oi) (hin : i < n)
    (hcomm : ∀ (i j : Nat) (oi oj : Oper), i < n → j < n → ops[i]? = some oi → ops[j]? = some oj → i ≠ j → oi.apart ops oj = true → ∀ s s1 s2, step i s = some s1 → step j s1 = some s2 → ∃ s1', step j s = some s1' ∧ step i s1' = some s2)
    (hwait : ∀ listed, HeadInv md ops n listed → ∀ i, i < n → listed.getD i true = false → ∀ t, n ≤ t → t ∉ Region.ready md ops listed)
    (hdone : ∀ listed s, fin listed s → ∀ j ∈ Region.ready md ops listed, n ≤ j) :
    ∀ (f : Nat) (listed : Array Bool) (s s1 : S), HeadInv md ops n listed →
      (∀ j oj, ops[j]? = some oj → j ≠ i → listed.getD j true = false → (∀ e ∈ oj.after, Region.binds md e = true → e.on ≠ i) → oi.apart ops oj = true) →
      i ∈ Region.ready md ops listed → step i s = some s1 → anyA step n md ops fin f (listed.setIfInBounds i true) s1 → anyA step n md ops fin (f + 1) listed s := by
  intro f
  induction f with
  | zero =>
    intro listed s s1 inv _ hr hs H
    have hun := (mem_ready.1 hr).1
    refine ⟨fun h => (by rw [h] at hr; cases hr), fun j hj => ?_⟩
    have hjn : j < n := by
      rcases Nat.lt_or_ge j n with h | h
      · exact h
      · exact absurd hj (hwait listed inv i hin hun j h)
    refine ⟨hjn, ?_⟩
    by_cases hji : j = i
    · subst hji; exact ⟨s1, hs, H⟩
    · have := hdone _ _ H j (ready_mono hj hji)
      omega
  | succ f ih =>
    intro listed s s1 inv hfree hr hs H
    have hun := (mem_ready.1 hr).1
    refine ⟨fun h => (by rw [h] at hr; cases hr), fun j hj => ?_⟩
    have hjn : j < n := by
      rcases Nat.lt_or_ge j n with h | h
      · exact h
      · exact absurd hj (hwait listed inv i hin hun j h)
    refine ⟨hjn, ?_⟩
    by_cases hji : j = i
    · subst hji; exact ⟨s1, hs, H⟩
    · obtain ⟨_, s2, h1, h2⟩ := H.2 j (ready_mono hj hji)
      obtain ⟨hjun, oj, hoj, hall⟩ := mem_ready.1 hj
      have hnot : ∀ e ∈ oj.after, Region.binds md e = true → e.on ≠ i := fun e he hb heq => by
        have h1 := hall e he hb
        rw [heq, getD_both hun] at h1
        cases h1
      obtain ⟨s1', g1, g2⟩ := hcomm i j oi oj hin hjn hi hoj (Ne.symm hji) (hfree j oj hoj hji hjun hnot) s s1 s2 hs h1
      refine ⟨s1', g1, ?_⟩
      have hfree' : ∀ k ok, ops[k]? = some ok → k ≠ i → (listed.setIfInBounds j true).getD k true = false →
          (∀ e ∈ ok.after, Region.binds md e = true → e.on ≠ i) → oi.apart ops ok = true := fun k ok hk hki hun hno => by
        refine hfree k ok hk hki ?_ hno
        by_cases hjk : j = k
        · subst hjk; exact hjun
        · rw [getD_set_ne true hjk] at hun; exact hun
      refine ih (listed.setIfInBounds j true) s1' s2 (inv.set hj hjn) hfree' (ready_mono hr (Ne.symm hji)) g2 ?_
      rw [Array.setIfInBounds_comm _ _ hji]
      exact h2

theorem anyA_lex {g : Nat} (hcomm : ∀ (i j : Nat) (oi oj : Oper), i < n → j < n → ops[i]? = some oi → ops[j]? = some oj → i ≠ j → oi.apart ops oj = true → ∀ s s1 s2, step i s = some s1 → step j s1 = some s2 → ∃ s1', step j s = some s1' ∧ step i s1' = some s2)
    (hwait : ∀ listed, HeadInv md ops n listed → ∀ i, i < n → listed.getD i true = false → ∀ t, n ≤ t → t ∉ Region.ready md ops listed) (hn : n ≤ ops.size) :
    ∀ (m k : Nat) (listed : Array Bool) (s sf : S), k + m = n → HeadInv md ops n listed → Region.lexHead md ops g m k listed = true → runS step m k s = some sf →
    anyA step n md ops (fun listed' s' => Region.seqB md ops g n listed' = true ∧ s' = sf) m listed s
  | 0, k, listed, s, sf, hk, _, hB, h => by
    have : k = n := by simpa using hk
    subst this
    simp only [runS, Option.some.injEq] at h
    exact ⟨by simpa [Region.lexHead] using hB, h⟩
  | m + 1, k, listed, s, sf, hk, inv, hB, h => by
    have hkn : k < n := by omega
    have h0 : ops[k]? = some ops[k] := Array.getElem?_eq_getElem (by omega)
    simp only [Region.lexHead, Bool.and_eq_true] at hB
    obtain ⟨⟨hr, hf⟩, hB'⟩ := hB
    have hr' : k ∈ Region.ready md ops listed := by simpa using hr
    simp only [runS] at h
    split at h
    · rename_i s1 hs
      exact anyA_first step n h0 hkn hcomm hwait (fun listed' s' hL => seqB_ready hL.1) m listed s s1 inv (Region.free_spec h0 hf) hr' hs
        (anyA_lex hcomm hwait hn m (k + 1) _ _ _ (by omega) (inv.set hr' hkn) hB' h)
    · cases h

theorem anyA_sound {Q : Exit → Act → World → Prop} {R : S → Act → World → Prop} {fin : Array Bool → S → Prop} {g : Nat}
    (hstep : ∀ i s s' a w, i < n → step i s = some s' → R s a w → ∀ K : Act → World → Prop, (∀ a' w', R s' a' w' → K a' w') → wpOp P ops Q i K a w)
    (hL : ∀ listed s a w, fin listed s → R s a w → wpAny P md ops Q g listed a w) :
    ∀ (f : Nat) (listed : Array Bool) (s : S) (a : Act) (w : World), anyA step n md ops fin f listed s → R s a w → wpAny P md ops Q (f + g) listed a w
  | 0, listed, s, a, w, h, hR => by rw [Nat.zero_add]; exact hL _ _ _ _ h hR
  | f + 1, listed, s, a, w, h, hR => by
    rw [show f + 1 + g = (f + g) + 1 by omega]
    refine ⟨fun h0 => absurd h0 h.1, fun i hi => ?_⟩
    obtain ⟨hin, s', hs, h'⟩ := h.2 i hi
    exact hstep i s s' a w hin hs hR _ fun a' w' hR' => anyA_sound hstep hL f _ s' a' w' h' hR'

/-- Is a region such that one lexical run of its first n operations, and then the others one behind the other, serve every order? -/
def drawOk (ops : Array Oper) (n : Nat) : Bool :=
  Region.noSelect ops && (decide (n = ops.size) || (decide (n < ops.size) && Region.sinkB .any ops n && Region.chainB .any ops n)) && Region.lexHead .any ops (ops.size - n) n 0 (Array.replicate ops.size false)

theorem wp_region_lex {Q : Exit → Act → World → Prop} {R : S → Act → World → Prop} {id : Nat} {a : Act} {w : World} (hm : P.follows .mixedOrders = true) (hd : drawOk ops n = true) {s sf : S}
    (hcomm : ∀ (i j : Nat) (oi oj : Oper), i < n → j < n → ops[i]? = some oi → ops[j]? = some oj → i ≠ j → oi.apart ops oj = true → ∀ s s1 s2, step i s = some s1 → step j s1 = some s2 → ∃ s1', step j s = some s1' ∧ step i s1' = some s2)
    (hstep : ∀ i s s' a w, i < n → step i s = some s' → R s a w → ∀ K : Act → World → Prop, (∀ a' w', R s' a' w' → K a' w') → wpOp P ops Q i K a w)
    (hrun : runS step n 0 s = some sf) (hR : R s a { w with drawn := w.drawn + 1 }) (htail : ∀ a' w', R sf a' w' → wpList P ops Q (ops.toList.drop n) a' w') : (Code.region id ops true).wp P Q a w := by
  simp only [drawOk, Bool.and_eq_true, Bool.or_eq_true, decide_eq_true_eq] at hd
  obtain ⟨⟨hsel, hcase⟩, hlex⟩ := hd
  have hn : n ≤ ops.size := by rcases hcase with h | h <;> omega
  have hwait : ∀ listed, HeadInv .any ops n listed → ∀ i, i < n → listed.getD i true = false → ∀ t, n ≤ t → t ∉ Region.ready .any ops listed := by
    intro listed inv i hi hun t ht
    rcases hcase with h | ⟨⟨h, hs⟩, hc⟩
    · intro hr
      obtain ⟨_, ot, hot, _⟩ := mem_ready.1 hr
      have := (Array.getElem?_eq_some_iff.1 hot).1
      omega
    · exact tail_waits hs hc h inv _ i rfl hi hun t ht
  have inv0 : HeadInv .any ops n (Array.replicate ops.size false) :=
    ⟨by simp, fun j oj _ hl => (by rw [getD_replicate_false] at hl; cases hl), fun t _ ht => getD_in (by simpa using ht) (getD_replicate_false _ _)⟩
  have H := anyA_lex step n (g := ops.size - n) hcomm hwait hn n 0 _ s sf (by omega) inv0 hlex hrun
  refine wp_region_any hm ?_
  have hdl : (ops.toList.drop n).length = ops.size - n := by simp
  have := anyA_sound step n (P := P) (Q := Q) (R := R) (g := ops.size - n) hstep (fun listed s' a' w' hL hR' => by
    obtain ⟨h1, rfl⟩ := hL
    have := wpAny_of_seq (md := .any) (Q' := Q) (ops.toList.drop n) n listed a' w' (fun j => by simp [List.getElem?_drop]) (by rw [hdl]; exact h1) (htail a' w' hR')
    rwa [hdl] at this) _ _ _ _ _ H hR
  rwa [show n + (ops.size - n) = ops.size by omega] at this
end any
/-! Regions whose operations come in any order that their waits allow, where what is not ordered may be swapped. -/
def ClosedL (ops : List Oper) (listed : Nat → Bool) : Prop := ∀ j o, ops[j]? = some o → listed j = true → ∀ p ∈ predsOf o, listed p = true

theorem ancsGo_good {ops : List Oper} {listed : Nat → Bool} (hc : ClosedL ops listed) : ∀ (os : List Oper) (acc : List (List Nat)), ops = ops.take acc.length ++ os →
    (∀ j o, j < acc.length → ops[j]? = some o → (∀ p ∈ predsOf o, listed p = true) → ∀ i ∈ acc.getD j [], listed i = true) →
    ∀ j o, ops[j]? = some o → (∀ p ∈ predsOf o, listed p = true) → ∀ i ∈ (ancsGo os acc).getD j [], listed i = true
  | [], acc, hops, hacc, j, o, hj, hp, i, hi => by
    simp only [ancsGo] at hi
    by_cases hl : j < acc.length
    · exact hacc j o hl hj hp i hi
    · rw [List.getD_eq_getElem?_getD, List.getElem?_eq_none (by omega)] at hi
      cases hi
  | o0 :: os, acc, hops, hacc, j, o, hj, hp, i, hi => by
    have h0 : ops[acc.length]? = some o0 := by
      have hlen : acc.length < ops.length := by
        have := congrArg List.length hops
        simp only [List.length_append, List.length_take, List.length_cons] at this
        omega
      rw [hops, List.getElem?_append_right (by simp; omega)]
      simp [Nat.min_eq_left (Nat.le_of_lt hlen)]
    refine ancsGo_good hc os _ ?_ ?_ j o hj hp i hi
    · have hlen : acc.length < ops.length := (List.getElem?_eq_some_iff.1 h0).1
      rw [List.length_append, List.length_singleton, List.take_add_one, h0]
      simp only [Option.toList_some, List.append_assoc, List.singleton_append]
      exact hops
    · intro j' o' hj' ho' hp' i' hi'
      rw [List.length_append, List.length_singleton] at hj'
      by_cases hl : j' < acc.length
      · rw [List.getD_eq_getElem?_getD, List.getElem?_append_left hl, ← List.getD_eq_getElem?_getD] at hi'
        exact hacc j' o' hl ho' hp' i' hi'
      · have hj0 : j' = acc.length := by omega
        subst hj0
        rw [h0] at ho'
        cases ho'
        rw [List.getD_eq_getElem?_getD, List.getElem?_append_right (by omega)] at hi'
        simp only [Nat.sub_self, List.getElem?_cons_zero, Option.getD_some, List.mem_eraseDups, List.mem_flatMap, List.mem_cons] at hi'
        obtain ⟨p, hpm, hpi⟩ := hi'
        rcases hpi with rfl | hpi
        · exact hp' _ hpm
        · by_cases hpl : p < acc.length
          · obtain ⟨op, hop⟩ : ∃ op, ops[p]? = some op := ⟨ops[p]'(by have := (List.getElem?_eq_some_iff.1 h0).1; omega), List.getElem?_eq_getElem _⟩
            exact hacc p op hpl hop (hc p op hop (hp' _ hpm)) i' hpi
          · rw [List.getD_eq_getElem?_getD, List.getElem?_eq_none (by omega)] at hpi
            cases hpi

theorem ancsOf_good {ops : List Oper} {listed : Nat → Bool} (hc : ClosedL ops listed) {j : Nat} {o : Oper} (hj : ops[j]? = some o) (hp : ∀ p ∈ predsOf o, listed p = true) {i : Nat} (hi : i ∈ (ancsOf ops).getD j []) : listed i = true :=
  ancsGo_good hc ops [] (by simp) (fun j o h => by simp at h) j o hj hp i hi

def waitsBack (ops : List Oper) : Bool := (List.range ops.length).all fun j => ((ops[j]?).map fun o => (predsOf o).all fun p => decide (p < j)).getD true

section mix
variable {P : Program} {ops : Array Oper} {S : Type} (step : Nat → S → Option S)

theorem mem_ready' {j : Nat} {listed : Array Bool} : j ∈ Region.ready .any ops listed ↔ listed.getD j true = false ∧ ∃ o, ops[j]? = some o ∧ ∀ p ∈ predsOf o, listed.getD p false = true := by
  rw [mem_ready]
  constructor
  · rintro ⟨h1, o, h2, h3⟩
    refine ⟨h1, o, h2, fun p hp => ?_⟩
    unfold predsOf at hp
    obtain ⟨e, he, rfl⟩ := List.mem_map.1 hp
    obtain ⟨h4, h5⟩ := List.mem_filter.1 he
    exact h3 e (by simpa using h4) h5
  · rintro ⟨h1, o, h2, h3⟩
    refine ⟨h1, o, h2, fun e he hb => h3 _ ?_⟩
    unfold predsOf
    exact List.mem_map.2 ⟨e, List.mem_filter.2 ⟨by simpa using he, hb⟩, rfl⟩

theorem getD_tf {l : Array Bool} {i : Nat} (h : l.getD i false = true) : l.getD i true = true := by
  simp only [Array.getD_eq_getD_getElem?] at *
  cases hh : l[i]? with
  | none => rfl
  | some b => rw [hh] at h; simpa using h
theorem getD_ft {l : Array Bool} {i : Nat} (h : l.getD i true = false) : l.getD i false = false := by
  simp only [Array.getD_eq_getD_getElem?] at *
  cases hh : l[i]? with
  | none => rfl
  | some b => rw [hh] at h; simpa using h

theorem closedL_set {listed : Array Bool} {i : Nat} (hc : ClosedL ops.toList fun k => listed.getD k false) (hi : i ∈ Region.ready .any ops listed) : ClosedL ops.toList fun k => (listed.setIfInBounds i true).getD k false := by
  obtain ⟨h1, o, h2, h3⟩ := mem_ready'.1 hi
  intro j oj hj hl p hp
  have keep : listed.getD p false = true → (listed.setIfInBounds i true).getD p false = true := fun h => getD_set_true h
  by_cases hji : j = i
  · subst hji
    have : ops[j]? = some oj := by simpa using hj
    rw [h2] at this
    cases this
    exact keep (h3 p hp)
  · refine keep (hc j oj hj ?_ p hp)
    simp only [Array.getD_eq_getD_getElem?, Array.getElem?_setIfInBounds_ne (Ne.symm hji)] at hl ⊢
    exact hl

theorem loose_of {listed : Array Bool} {i j : Nat} (hc : ClosedL ops.toList fun k => listed.getD k false) (hi : i ∈ Region.ready .any ops listed) (hj : j ∈ Region.ready .any ops listed) : loose (ancsOf ops.toList) i j = true := by
  obtain ⟨i1, oi, i2, i3⟩ := mem_ready'.1 hi
  obtain ⟨j1, oj, j2, j3⟩ := mem_ready'.1 hj
  have a1 : ¬ j ∈ (ancsOf ops.toList).getD i [] := fun h => by
    have this : listed.getD j false = true := ancsOf_good hc (by simpa using i2) i3 h
    rw [getD_ft j1] at this
    cases this
  have a2 : ¬ i ∈ (ancsOf ops.toList).getD j [] := fun h => by
    have this : listed.getD i false = true := ancsOf_good hc (by simpa using j2) j3 h
    rw [getD_ft i1] at this
    cases this
  simp only [loose, Bool.and_eq_true, Bool.not_eq_true', List.contains_eq_mem, decide_eq_false_iff_not]
  exact ⟨a1, a2⟩

variable (hcomm : ∀ (i j : Nat) (oi oj : Oper), ops[i]? = some oi → ops[j]? = some oj → i ≠ j → loose (ancsOf ops.toList) i j = true → ∀ s s1 s2, step i s = some s1 → step j s1 = some s2 → ∃ s1', step j s = some s1' ∧ step i s1' = some s2)
include hcomm

theorem anyM_first {fin : Array Bool → S → Prop} {i : Nat} {oi : Oper} (hi : ops[i]? = some oi) (hdone : ∀ listed s, fin listed s → Region.ready .any ops listed = []) :
    ∀ (f : Nat) (listed : Array Bool) (s s1 : S), ClosedL ops.toList (fun k => listed.getD k false) → i ∈ Region.ready .any ops listed → step i s = some s1 → anyA step ops.size .any ops fin f (listed.setIfInBounds i true) s1 → anyA step ops.size .any ops fin (f + 1) listed s := by
  intro f
  induction f with
  | zero =>
    intro listed s s1 hc hr hs H
    refine ⟨fun h => (by rw [h] at hr; cases hr), fun j hj => ?_⟩
    obtain ⟨_, oj, hoj, _⟩ := mem_ready'.1 hj
    refine ⟨(Array.getElem?_eq_some_iff.1 hoj).1, ?_⟩
    by_cases hji : j = i
    · subst hji; exact ⟨s1, hs, H⟩
    · have := ready_mono hj hji
      rw [hdone _ _ H] at this
      cases this
  | succ f ih =>
    intro listed s s1 hc hr hs H
    refine ⟨fun h => (by rw [h] at hr; cases hr), fun j hj => ?_⟩
    obtain ⟨_, oj, hoj, _⟩ := mem_ready'.1 hj
    refine ⟨(Array.getElem?_eq_some_iff.1 hoj).1, ?_⟩
    by_cases hji : j = i
    · subst hji; exact ⟨s1, hs, H⟩
    · obtain ⟨_, s2, h1, h2⟩ := H.2 j (ready_mono hj hji)
      obtain ⟨s1', g1, g2⟩ := hcomm i j oi oj hi hoj (Ne.symm hji) (loose_of hc hr hj) s s1 s2 hs h1
      refine ⟨s1', g1, ?_⟩
      refine ih (listed.setIfInBounds j true) s1' s2 (closedL_set hc hj) (ready_mono hr (Ne.symm hji)) g2 ?_
      rw [Array.setIfInBounds_comm _ _ hji]
      exact h2

theorem anyM_lex (hback : waitsBack ops.toList = true) : ∀ (m k : Nat) (listed : Array Bool) (s sf : S), k + m = ops.size → listed.size = ops.size → (∀ j, j < ops.size → listed.getD j false = decide (j < k)) → runS step m k s = some sf →
    anyA step ops.size .any ops (fun listed' s' => Region.ready .any ops listed' = [] ∧ s' = sf) m listed s
  | 0, k, listed, s, sf, hk, hsz, hl, h => by
    simp only [runS, Option.some.injEq] at h
    refine ⟨?_, h⟩
    rw [List.eq_nil_iff_forall_not_mem]
    intro j hj
    obtain ⟨h1, o, h2, _⟩ := mem_ready'.1 hj
    have hjs := (Array.getElem?_eq_some_iff.1 h2).1
    have := hl j hjs
    rw [getD_ft h1] at this
    have hkn : k = ops.size := by omega
    subst hkn
    simp [hjs] at this
  | m + 1, k, listed, s, sf, hk, hsz, hl, h => by
    have hkn : k < ops.size := by omega
    have h0 : ops[k]? = some ops[k] := Array.getElem?_eq_getElem hkn
    have hpre : ∀ j o, ops[j]? = some o → ∀ p ∈ predsOf o, p < j := fun j o hj p hp => by
      have hjs := (Array.getElem?_eq_some_iff.1 hj).1
      unfold waitsBack at hback
      rw [List.all_eq_true] at hback
      have := hback j (List.mem_range.2 (by simpa using hjs))
      rw [show ops.toList[j]? = some o by simpa using hj] at this
      simp only [Option.map_some, Option.getD_some, List.all_eq_true, decide_eq_true_eq] at this
      exact this p hp
    have hc : ClosedL ops.toList fun k => listed.getD k false := by
      intro j o hj hlj p hp
      have hj' : ops[j]? = some o := by simpa using hj
      have hjs := (Array.getElem?_eq_some_iff.1 hj').1
      have hpj := hpre j o hj' p hp
      simp only at hlj ⊢
      rw [hl j hjs] at hlj
      rw [hl p (by omega)]
      simp only [decide_eq_true_eq] at hlj ⊢
      omega
    have hr : k ∈ Region.ready .any ops listed := by
      refine mem_ready'.2 ⟨?_, _, h0, fun p hp => ?_⟩
      · have := hl k hkn
        simp only [Nat.lt_irrefl, decide_false] at this
        simp only [Array.getD_eq_getD_getElem?] at this ⊢
        have hlt : k < listed.size := by omega
        rw [Array.getElem?_eq_getElem hlt] at this ⊢
        simpa using this
      · have := hpre k _ h0 p hp
        rw [hl p (by omega)]
        simpa using this
    simp only [runS] at h
    split at h
    · rename_i s1 hs
      refine anyM_first step hcomm h0 (fun _ _ hL => hL.1) m listed s s1 hc hr hs ?_
      refine anyM_lex hback m (k + 1) _ _ _ (by omega) (by simpa using hsz) (fun j hj => ?_) h
      by_cases hjk : j = k
      · subst hjk
        simp [Array.getD_eq_getD_getElem?, hsz, hj]
      · simp only [Array.getD_eq_getD_getElem?, Array.getElem?_setIfInBounds_ne (Ne.symm hjk)]
        have := hl j hj
        simp only [Array.getD_eq_getD_getElem?] at this
        rw [this]
        congr 1
        simp only [eq_iff_iff]
        omega
    · cases h

theorem wp_region_mix {Q : Exit → Act → World → Prop} {R : S → Act → World → Prop} {id : Nat} {a : Act} {w : World} (hm : P.follows .mixedOrders = true) (hback : waitsBack ops.toList = true) {s sf : S}
    (hstep : ∀ i s s' a w, step i s = some s' → R s a w → ∀ K : Act → World → Prop, (∀ a' w', R s' a' w' → K a' w') → wpOp P ops Q i K a w)
    (hrun : runS step ops.size 0 s = some sf) (hR : R s a { w with drawn := w.drawn + 1 }) (hend : ∀ a' w', R sf a' w' → Q .normal a' w') : (Code.region id ops true).wp P Q a w := by
  refine wp_region_any hm ?_
  have H := anyM_lex step hcomm hback ops.size 0 (Array.replicate ops.size false) s sf (by omega) (by simp) (fun j hj => by
    simp [Array.getD_eq_getD_getElem?, hj]) hrun
  have := anyA_sound step ops.size (P := P) (Q := Q) (R := R) (g := 0) (fun i s s' a w _ => hstep i s s' a w) (fun listed s' a' w' hL hR' => by
    obtain ⟨h1, rfl⟩ := hL
    exact ⟨h1, hend a' w' hR'⟩) ops.size _ _ _ _ H hR
  simpa using this
end mix
end Go.Abs
