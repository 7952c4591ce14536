/- Part 7 of the abstract interpreter: its operations and what they say of a world, for any program and any world. -/
import Derived.Test.YtidfkjpcpgeilaaAbs6
set_option linter.unusedVariables false
set_option linter.unusedSimpArgs false
section
namespace Go.Abs
section any
variable {P : Program} {md : Region.Mode} {ops : Array Oper} {S : Type} (step : Nat → S → Option S) (n : Nat)
def anyA (md : Region.Mode) (ops : Array Oper) (fin : Array Bool → S → Prop) : Nat → Array Bool → S → Prop
  | 0, listed, s => fin listed s
  | f + 1, listed, s => Region.ready md ops listed ≠ [] ∧ ∀ i ∈ Region.ready md ops listed, i < n ∧ ∃ s', step i s = some s' ∧ anyA md ops fin f (listed.setIfInBounds i true) s'
theorem anyA_first {fin : Array Bool → S → Prop} {i : Nat} {oi : Oper} (hi : ops[i]? = some oi) (hin : i < n)
    (hcomm : ∀ (i j : Nat) (oi oj : Oper), i < n → j < n → ops[i]? = some oi → ops[j]? = some oj → i ≠ j → oi.apart ops oj = true → ∀ s s1 s2, step i s = some s1 → step j s1 = some s2 → ∃ s1', step j s = some s1' ∧ step i s1' = some s2)
    (hwait : ∀ listed, HeadInv md ops n listed → ∀ i, i < n → listed.getD i true = false → ∀ t, n ≤ t → t ∉ Region.ready md ops listed)
    (hdone : ∀ listed s, fin listed s → ∀ j ∈ Region.ready md ops listed, n ≤ j) :
    ∀ (f : Nat) (listed : Array Bool) (s s1 : S), HeadInv md ops n listed →
      (∀ j oj, ops[j]? = some oj → j ≠ i → listed.getD j true = false → (∀ e ∈ oj.after, Region.binds md e = true → e.on ≠ i) → oi.apart ops oj = true) →
      i ∈ Region.ready md ops listed → step i s = some s1 → anyA step n md ops fin f (listed.setIfInBounds i true) s1 → anyA step n md ops fin (f + 1) listed s := by
  intro f
  induction f with
  | zero =>
    intro listed s s1 inv _ hr hs H
    have hun := (mem_ready.1 hr).1
    refine ⟨fun h => (by rw [h] at hr; cases hr), fun j hj => ?_⟩
    have hjn : j < n := by
      rcases Nat.lt_or_ge j n with h | h
      · exact h
      · exact absurd hj (hwait listed inv i hin hun j h)
    refine ⟨hjn, ?_⟩
    by_cases hji : j = i
    · subst hji; exact ⟨s1, hs, H⟩
    · have := hdone _ _ H j (ready_mono hj hji)
      omega
  | succ f ih =>
    intro listed s s1 inv hfree hr hs H
    have hun := (mem_ready.1 hr).1
    refine ⟨fun h => (by rw [h] at hr; cases hr), fun j hj => ?_⟩
    have hjn : j < n := by
      rcases Nat.lt_or_ge j n with h | h
      · exact h
      · exact absurd hj (hwait listed inv i hin hun j h)
    refine ⟨hjn, ?_⟩
    by_cases hji : j = i
    · subst hji; exact ⟨s1, hs, H⟩
    · obtain ⟨_, s2, h1, h2⟩ := H.2 j (ready_mono hj hji)
      obtain ⟨hjun, oj, hoj, hall⟩ := mem_ready.1 hj
      have hnot : ∀ e ∈ oj.after, Region.binds md e = true → e.on ≠ i := fun e he hb heq => by
        have h1 := hall e he hb
        rw [heq, getD_both hun] at h1
        cases h1
      obtain ⟨s1', g1, g2⟩ := hcomm i j oi oj hin hjn hi hoj (Ne.symm hji) (hfree j oj hoj hji hjun hnot) s s1 s2 hs h1
      refine ⟨s1', g1, ?_⟩
      have hfree' : ∀ k ok, ops[k]? = some ok → k ≠ i → (listed.setIfInBounds j true).getD k true = false →
          (∀ e ∈ ok.after, Region.binds md e = true → e.on ≠ i) → oi.apart ops ok = true := fun k ok hk hki hun hno => by
        refine hfree k ok hk hki ?_ hno
        by_cases hjk : j = k
        · subst hjk; exact hjun
        · rw [getD_set_ne true hjk] at hun; exact hun
      refine ih (listed.setIfInBounds j true) s1' s2 (inv.set hj hjn) hfree' (ready_mono hr (Ne.symm hji)) g2 ?_
      rw [Array.setIfInBounds_comm _ _ hji]
      exact h2
theorem anyA_lex {g : Nat} (hcomm : ∀ (i j : Nat) (oi oj : Oper), i < n → j < n → ops[i]? = some oi → ops[j]? = some oj → i ≠ j → oi.apart ops oj = true → ∀ s s1 s2, step i s = some s1 → step j s1 = some s2 → ∃ s1', step j s = some s1' ∧ step i s1' = some s2)
    (hwait : ∀ listed, HeadInv md ops n listed → ∀ i, i < n → listed.getD i true = false → ∀ t, n ≤ t → t ∉ Region.ready md ops listed) (hn : n ≤ ops.size) :
    ∀ (m k : Nat) (listed : Array Bool) (s sf : S), k + m = n → HeadInv md ops n listed → Region.lexHead md ops g m k listed = true → runS step m k s = some sf →
    anyA step n md ops (fun listed' s' => Region.seqB md ops g n listed' = true ∧ s' = sf) m listed s
  | 0, k, listed, s, sf, hk, _, hB, h => by
    have : k = n := by simpa using hk
    subst this
    simp only [runS, Option.some.injEq] at h
    exact ⟨by simpa [Region.lexHead] using hB, h⟩
  | m + 1, k, listed, s, sf, hk, inv, hB, h => by
    have hkn : k < n := by omega
    have h0 : ops[k]? = some ops[k] := Array.getElem?_eq_getElem (by omega)
    simp only [Region.lexHead, Bool.and_eq_true] at hB
    obtain ⟨⟨hr, hf⟩, hB'⟩ := hB
    have hr' : k ∈ Region.ready md ops listed := by simpa using hr
    simp only [runS] at h
    split at h
    · rename_i s1 hs
      exact anyA_first step n h0 hkn hcomm hwait (fun listed' s' hL => seqB_ready hL.1) m listed s s1 inv (Region.free_spec h0 hf) hr' hs
        (anyA_lex hcomm hwait hn m (k + 1) _ _ _ (by omega) (inv.set hr' hkn) hB' h)
    · cases h
theorem anyA_sound {Q : Exit → Act → World → Prop} {R : S → Act → World → Prop} {fin : Array Bool → S → Prop} {g : Nat}
    (hstep : ∀ i s s' a w, i < n → step i s = some s' → R s a w → ∀ K : Act → World → Prop, (∀ a' w', R s' a' w' → K a' w') → wpOp P ops Q i K a w)
    (hL : ∀ listed s a w, fin listed s → R s a w → wpAny P md ops Q g listed a w) :
    ∀ (f : Nat) (listed : Array Bool) (s : S) (a : Act) (w : World), anyA step n md ops fin f listed s → R s a w → wpAny P md ops Q (f + g) listed a w
  | 0, listed, s, a, w, h, hR => by rw [Nat.zero_add]; exact hL _ _ _ _ h hR
  | f + 1, listed, s, a, w, h, hR => by
    rw [show f + 1 + g = (f + g) + 1 by omega]
    refine ⟨fun h0 => absurd h0 h.1, fun i hi => ?_⟩
    obtain ⟨hin, s', hs, h'⟩ := h.2 i hi
    exact hstep i s s' a w hin hs hR _ fun a' w' hR' => anyA_sound hstep hL f _ s' a' w' h' hR'
def drawOk (ops : Array Oper) (n : Nat) : Bool :=
  Region.noSelect ops && (decide (n = ops.size) || (decide (n < ops.size) && Region.sinkB .any ops n && Region.chainB .any ops n)) && Region.lexHead .any ops (ops.size - n) n 0 (Array.replicate ops.size false)
theorem wp_region_lex {Q : Exit → Act → World → Prop} {R : S → Act → World → Prop} {id : Nat} {a : Act} {w : World} (hm : P.follows .mixedOrders = true) (hd : drawOk ops n = true) {s sf : S}
    (hcomm : ∀ (i j : Nat) (oi oj : Oper), i < n → j < n → ops[i]? = some oi → ops[j]? = some oj → i ≠ j → oi.apart ops oj = true → ∀ s s1 s2, step i s = some s1 → step j s1 = some s2 → ∃ s1', step j s = some s1' ∧ step i s1' = some s2)
    (hstep : ∀ i s s' a w, i < n → step i s = some s' → R s a w → ∀ K : Act → World → Prop, (∀ a' w', R s' a' w' → K a' w') → wpOp P ops Q i K a w)
    (hrun : runS step n 0 s = some sf) (hR : R s a { w with drawn := w.drawn + 1 }) (htail : ∀ a' w', R sf a' w' → wpList P ops Q (ops.toList.drop n) a' w') : (Code.region id ops true).wp P Q a w := by
  simp only [drawOk, Bool.and_eq_true, Bool.or_eq_true, decide_eq_true_eq] at hd
  obtain ⟨⟨hsel, hcase⟩, hlex⟩ := hd
  have hn : n ≤ ops.size := by rcases hcase with h | h <;> omega
  have hwait : ∀ listed, HeadInv .any ops n listed → ∀ i, i < n → listed.getD i true = false → ∀ t, n ≤ t → t ∉ Region.ready .any ops listed := by
    intro listed inv i hi hun t ht
    rcases hcase with h | ⟨⟨h, hs⟩, hc⟩
    · intro hr
      obtain ⟨_, ot, hot, _⟩ := mem_ready.1 hr
      have := (Array.getElem?_eq_some_iff.1 hot).1
      omega
    · exact tail_waits hs hc h inv _ i rfl hi hun t ht
  have inv0 : HeadInv .any ops n (Array.replicate ops.size false) :=
    ⟨by simp, fun j oj _ hl => (by rw [getD_replicate_false] at hl; cases hl), fun t _ ht => getD_in (by simpa using ht) (getD_replicate_false _ _)⟩
  have H := anyA_lex step n (g := ops.size - n) hcomm hwait hn n 0 _ s sf (by omega) inv0 hlex hrun
  refine wp_region_any hm ?_
  have hdl : (ops.toList.drop n).length = ops.size - n := by simp
  have := anyA_sound step n (P := P) (Q := Q) (R := R) (g := ops.size - n) hstep (fun listed s' a' w' hL hR' => by
    obtain ⟨h1, rfl⟩ := hL
    have := wpAny_of_seq (md := .any) (Q' := Q) (ops.toList.drop n) n listed a' w' (fun j => by simp [List.getElem?_drop]) (by rw [hdl]; exact h1) (htail a' w' hR')
    rwa [hdl] at this) _ _ _ _ _ H hR
  rwa [show n + (ops.size - n) = ops.size by omega] at this
end any
def ClosedL (ops : List Oper) (listed : Nat → Bool) : Prop := ∀ j o, ops[j]? = some o → listed j = true → ∀ p ∈ predsOf o, listed p = true
theorem ancsGo_good {ops : List Oper} {listed : Nat → Bool} (hc : ClosedL ops listed) : ∀ (os : List Oper) (acc : List (List Nat)), ops = ops.take acc.length ++ os →
    (∀ j o, j < acc.length → ops[j]? = some o → (∀ p ∈ predsOf o, listed p = true) → ∀ i ∈ acc.getD j [], listed i = true) →
    ∀ j o, ops[j]? = some o → (∀ p ∈ predsOf o, listed p = true) → ∀ i ∈ (ancsGo os acc).getD j [], listed i = true
  | [], acc, hops, hacc, j, o, hj, hp, i, hi => by
    simp only [ancsGo] at hi
    by_cases hl : j < acc.length
    · exact hacc j o hl hj hp i hi
    · rw [List.getD_eq_getElem?_getD, List.getElem?_eq_none (by omega)] at hi
      cases hi
  | o0 :: os, acc, hops, hacc, j, o, hj, hp, i, hi => by
    have h0 : ops[acc.length]? = some o0 := by
      have hlen : acc.length < ops.length := by
        have := congrArg List.length hops
        simp only [List.length_append, List.length_take, List.length_cons] at this
        omega
      rw [hops, List.getElem?_append_right (by simp; omega)]
      simp [Nat.min_eq_left (Nat.le_of_lt hlen)]
    refine ancsGo_good hc os _ ?_ ?_ j o hj hp i hi
    · have hlen : acc.length < ops.length := (List.getElem?_eq_some_iff.1 h0).1
      rw [List.length_append, List.length_singleton, List.take_add_one, h0]
      simp only [Option.toList_some, List.append_assoc, List.singleton_append]
      exact hops
    · intro j' o' hj' ho' hp' i' hi'
      rw [List.length_append, List.length_singleton] at hj'
      by_cases hl : j' < acc.length
      · rw [List.getD_eq_getElem?_getD, List.getElem?_append_left hl, ← List.getD_eq_getElem?_getD] at hi'
        exact hacc j' o' hl ho' hp' i' hi'
      · have hj0 : j' = acc.length := by omega
        subst hj0
        rw [h0] at ho'
        cases ho'
        rw [List.getD_eq_getElem?_getD, List.getElem?_append_right (by omega)] at hi'
        simp only [Nat.sub_self, List.getElem?_cons_zero, Option.getD_some, List.mem_eraseDups, List.mem_flatMap, List.mem_cons] at hi'
        obtain ⟨p, hpm, hpi⟩ := hi'
        rcases hpi with rfl | hpi
        · exact hp' _ hpm
        · by_cases hpl : p < acc.length
          · obtain ⟨op, hop⟩ : ∃ op, ops[p]? = some op := ⟨ops[p]'(by have := (List.getElem?_eq_some_iff.1 h0).1; omega), List.getElem?_eq_getElem _⟩
            exact hacc p op hpl hop (hc p op hop (hp' _ hpm)) i' hpi
          · rw [List.getD_eq_getElem?_getD, List.getElem?_eq_none (by omega)] at hpi
            cases hpi
theorem ancsOf_good {ops : List Oper} {listed : Nat → Bool} (hc : ClosedL ops listed) {j : Nat} {o : Oper} (hj : ops[j]? = some o) (hp : ∀ p ∈ predsOf o, listed p = true) {i : Nat} (hi : i ∈ (ancsOf ops).getD j []) : listed i = true :=
  ancsGo_good hc ops [] (by simp) (fun j o h => by simp at h) j o hj hp i hi
def waitsBack (ops : List Oper) : Bool := (List.range ops.length).all fun j => ((ops[j]?).map fun o => (predsOf o).all fun p => decide (p < j)).getD true
section mix
variable {P : Program} {ops : Array Oper} {S : Type} (step : Nat → S → Option S)
theorem mem_ready' {j : Nat} {listed : Array Bool} : j ∈ Region.ready .any ops listed ↔ listed.getD j true = false ∧ ∃ o, ops[j]? = some o ∧ ∀ p ∈ predsOf o, listed.getD p false = true := by
  rw [mem_ready]
  constructor
  · rintro ⟨h1, o, h2, h3⟩
    refine ⟨h1, o, h2, fun p hp => ?_⟩
    unfold predsOf at hp
    obtain ⟨e, he, rfl⟩ := List.mem_map.1 hp
    obtain ⟨h4, h5⟩ := List.mem_filter.1 he
    exact h3 e (by simpa using h4) h5
  · rintro ⟨h1, o, h2, h3⟩
    refine ⟨h1, o, h2, fun e he hb => h3 _ ?_⟩
    unfold predsOf
    exact List.mem_map.2 ⟨e, List.mem_filter.2 ⟨by simpa using he, hb⟩, rfl⟩
theorem getD_tf {l : Array Bool} {i : Nat} (h : l.getD i false = true) : l.getD i true = true := by
  simp only [Array.getD_eq_getD_getElem?] at *
  cases hh : l[i]? with
  | none => rfl
  | some b => rw [hh] at h; simpa using h
theorem getD_ft {l : Array Bool} {i : Nat} (h : l.getD i true = false) : l.getD i false = false := by
  simp only [Array.getD_eq_getD_getElem?] at *
  cases hh : l[i]? with
  | none => rfl
  | some b => rw [hh] at h; simpa using h
theorem closedL_set {listed : Array Bool} {i : Nat} (hc : ClosedL ops.toList fun k => listed.getD k false) (hi : i ∈ Region.ready .any ops listed) : ClosedL ops.toList fun k => (listed.setIfInBounds i true).getD k false := by
  obtain ⟨h1, o, h2, h3⟩ := mem_ready'.1 hi
  intro j oj hj hl p hp
  have keep : listed.getD p false = true → (listed.setIfInBounds i true).getD p false = true := fun h => getD_set_true h
  by_cases hji : j = i
  · subst hji
    have : ops[j]? = some oj := by simpa using hj
    rw [h2] at this
    cases this
    exact keep (h3 p hp)
  · refine keep (hc j oj hj ?_ p hp)
    simp only [Array.getD_eq_getD_getElem?, Array.getElem?_setIfInBounds_ne (Ne.symm hji)] at hl ⊢
    exact hl
theorem loose_of {listed : Array Bool} {i j : Nat} (hc : ClosedL ops.toList fun k => listed.getD k false) (hi : i ∈ Region.ready .any ops listed) (hj : j ∈ Region.ready .any ops listed) : loose (ancsOf ops.toList) i j = true := by
  obtain ⟨i1, oi, i2, i3⟩ := mem_ready'.1 hi
  obtain ⟨j1, oj, j2, j3⟩ := mem_ready'.1 hj
  have a1 : ¬ j ∈ (ancsOf ops.toList).getD i [] := fun h => by
    have this : listed.getD j false = true := ancsOf_good hc (by simpa using i2) i3 h
    rw [getD_ft j1] at this
    cases this
  have a2 : ¬ i ∈ (ancsOf ops.toList).getD j [] := fun h => by
    have this : listed.getD i false = true := ancsOf_good hc (by simpa using j2) j3 h
    rw [getD_ft i1] at this
    cases this
  simp only [loose, Bool.and_eq_true, Bool.not_eq_true', List.contains_eq_mem, decide_eq_false_iff_not]
  exact ⟨a1, a2⟩
variable (hcomm : ∀ (i j : Nat) (oi oj : Oper), ops[i]? = some oi → ops[j]? = some oj → i ≠ j → loose (ancsOf ops.toList) i j = true → ∀ s s1 s2, step i s = some s1 → step j s1 = some s2 → ∃ s1', step j s = some s1' ∧ step i s1' = some s2)
include hcomm
theorem anyM_first {fin : Array Bool → S → Prop} {i : Nat} {oi : Oper} (hi : ops[i]? = some oi) (hdone : ∀ listed s, fin listed s → Region.ready .any ops listed = []) :
    ∀ (f : Nat) (listed : Array Bool) (s s1 : S), ClosedL ops.toList (fun k => listed.getD k false) → i ∈ Region.ready .any ops listed → step i s = some s1 → anyA step ops.size .any ops fin f (listed.setIfInBounds i true) s1 → anyA step ops.size .any ops fin (f + 1) listed s := by
  intro f
  induction f with
  | zero =>
    intro listed s s1 hc hr hs H
    refine ⟨fun h => (by rw [h] at hr; cases hr), fun j hj => ?_⟩
    obtain ⟨_, oj, hoj, _⟩ := mem_ready'.1 hj
    refine ⟨(Array.getElem?_eq_some_iff.1 hoj).1, ?_⟩
    by_cases hji : j = i
    · subst hji; exact ⟨s1, hs, H⟩
    · have := ready_mono hj hji
      rw [hdone _ _ H] at this
      cases this
  | succ f ih =>
    intro listed s s1 hc hr hs H
    refine ⟨fun h => (by rw [h] at hr; cases hr), fun j hj => ?_⟩
    obtain ⟨_, oj, hoj, _⟩ := mem_ready'.1 hj
    refine ⟨(Array.getElem?_eq_some_iff.1 hoj).1, ?_⟩
    by_cases hji : j = i
    · subst hji; exact ⟨s1, hs, H⟩
    · obtain ⟨_, s2, h1, h2⟩ := H.2 j (ready_mono hj hji)
      obtain ⟨s1', g1, g2⟩ := hcomm i j oi oj hi hoj (Ne.symm hji) (loose_of hc hr hj) s s1 s2 hs h1
      refine ⟨s1', g1, ?_⟩
      refine ih (listed.setIfInBounds j true) s1' s2 (closedL_set hc hj) (ready_mono hr (Ne.symm hji)) g2 ?_
      rw [Array.setIfInBounds_comm _ _ hji]
      exact h2
theorem anyM_lex (hback : waitsBack ops.toList = true) : ∀ (m k : Nat) (listed : Array Bool) (s sf : S), k + m = ops.size → listed.size = ops.size → (∀ j, j < ops.size → listed.getD j false = decide (j < k)) → runS step m k s = some sf →
    anyA step ops.size .any ops (fun listed' s' => Region.ready .any ops listed' = [] ∧ s' = sf) m listed s
  | 0, k, listed, s, sf, hk, hsz, hl, h => by
    simp only [runS, Option.some.injEq] at h
    refine ⟨?_, h⟩
    rw [List.eq_nil_iff_forall_not_mem]
    intro j hj
    obtain ⟨h1, o, h2, _⟩ := mem_ready'.1 hj
    have hjs := (Array.getElem?_eq_some_iff.1 h2).1
    have := hl j hjs
    rw [getD_ft h1] at this
    have hkn : k = ops.size := by omega
    subst hkn
    simp [hjs] at this
  | m + 1, k, listed, s, sf, hk, hsz, hl, h => by
    have hkn : k < ops.size := by omega
    have h0 : ops[k]? = some ops[k] := Array.getElem?_eq_getElem hkn
    have hpre : ∀ j o, ops[j]? = some o → ∀ p ∈ predsOf o, p < j := fun j o hj p hp => by
      have hjs := (Array.getElem?_eq_some_iff.1 hj).1
      unfold waitsBack at hback
      rw [List.all_eq_true] at hback
      have := hback j (List.mem_range.2 (by simpa using hjs))
      rw [show ops.toList[j]? = some o by simpa using hj] at this
      simp only [Option.map_some, Option.getD_some, List.all_eq_true, decide_eq_true_eq] at this
      exact this p hp
    have hc : ClosedL ops.toList fun k => listed.getD k false := by
      intro j o hj hlj p hp
      have hj' : ops[j]? = some o := by simpa using hj
      have hjs := (Array.getElem?_eq_some_iff.1 hj').1
      have hpj := hpre j o hj' p hp
      simp only at hlj ⊢
      rw [hl j hjs] at hlj
      rw [hl p (by omega)]
      simp only [decide_eq_true_eq] at hlj ⊢
      omega
    have hr : k ∈ Region.ready .any ops listed := by
      refine mem_ready'.2 ⟨?_, _, h0, fun p hp => ?_⟩
      · have := hl k hkn
        simp only [Nat.lt_irrefl, decide_false] at this
        simp only [Array.getD_eq_getD_getElem?] at this ⊢
        have hlt : k < listed.size := by omega
        rw [Array.getElem?_eq_getElem hlt] at this ⊢
        simpa using this
      · have := hpre k _ h0 p hp
        rw [hl p (by omega)]
        simpa using this
    simp only [runS] at h
    split at h
    · rename_i s1 hs
      refine anyM_first step hcomm h0 (fun _ _ hL => hL.1) m listed s s1 hc hr hs ?_
      refine anyM_lex hback m (k + 1) _ _ _ (by omega) (by simpa using hsz) (fun j hj => ?_) h
      by_cases hjk : j = k
      · subst hjk
        simp [Array.getD_eq_getD_getElem?, hsz, hj]
      · simp only [Array.getD_eq_getD_getElem?, Array.getElem?_setIfInBounds_ne (Ne.symm hjk)]
        have := hl j hj
        simp only [Array.getD_eq_getD_getElem?] at this
        rw [this]
        congr 1
        simp only [eq_iff_iff]
        omega
    · cases h
theorem wp_region_mix {Q : Exit → Act → World → Prop} {R : S → Act → World → Prop} {id : Nat} {a : Act} {w : World} (hm : P.follows .mixedOrders = true) (hback : waitsBack ops.toList = true) {s sf : S}
    (hstep : ∀ i s s' a w, step i s = some s' → R s a w → ∀ K : Act → World → Prop, (∀ a' w', R s' a' w' → K a' w') → wpOp P ops Q i K a w)
    (hrun : runS step ops.size 0 s = some sf) (hR : R s a { w with drawn := w.drawn + 1 }) (hend : ∀ a' w', R sf a' w' → Q .normal a' w') : (Code.region id ops true).wp P Q a w := by
  refine wp_region_any hm ?_
  have H := anyM_lex step hcomm hback ops.size 0 (Array.replicate ops.size false) s sf (by omega) (by simp) (fun j hj => by
    simp [Array.getD_eq_getD_getElem?, hj]) hrun
  have := anyA_sound step ops.size (P := P) (Q := Q) (R := R) (g := 0) (fun i s s' a w _ => hstep i s s' a w) (fun listed s' a' w' hL hR' => by
    obtain ⟨h1, rfl⟩ := hL
    exact ⟨h1, hend a' w' hR'⟩) ops.size _ _ _ _ H hR
  simpa using this
end mix
end Go.Abs
end
section
namespace Go.Abs
def Agree (xs : List Operand) (e e' : Env) : Prop := ∀ x ∈ xs, ev e x = ev e' x
theorem evs_congr {e e' : Env} : ∀ {xs : List Operand}, Agree xs e e' → evs e xs = evs e' xs
  | [], _ => rfl
  | x :: xs, h => by
    simp only [evs]
    rw [h x (by simp), evs_congr (fun y hy => h y (by simp [hy]))]
theorem evps_congr {e e' : Env} : ∀ {xs : List (Nat × Operand)}, (∀ p ∈ xs, ev e p.2 = ev e' p.2) → evps e xs = evps e' xs
  | [], _ => rfl
  | (i, x) :: xs, h => by
    simp only [evps]
    rw [h (i, x) (by simp), evps_congr (fun y hy => h y (by simp [hy]))]
section
variable {P : Program} {cx : Cx} {call : Caller} {σ : AS}
theorem valA_congr {e e' : Env} {o : Oper} (h : Agree o.op.operands.toList e e') : valA P σ e o = valA P σ e' o ∧ optsA e o = optsA e' o := by
  unfold valA optsA
  constructor
  · cases hop : o.op <;> simp only [hop, Op.operands, Agree, Array.toList_append, List.mem_append, List.mem_toArray, List.mem_cons, List.not_mem_nil, or_false] at h <;> (try dsimp only)
    case move x => rw [h x rfl]
    case assign x => rw [h x rfl]
    case pick c a b => rw [h c (by simp), h a (by simp), h b (by simp)]
    case build t ps => rw [evps_congr (fun p hp => h p.2 (by simp only [List.mem_map]; exact ⟨p, hp, rfl⟩))]
    case load t x => rw [h x rfl]
    case nilCheck x => rw [h x rfl]
    case binOp op t x y t' => rw [h x (by simp), h y (by simp)]
    case unOp op t x => rw [h x rfl]
    case convert src dst x => rw [h x rfl]
    case makeInterface t x => rw [h x rfl]
    case makeFunc fn a b => rw [evs_congr (xs := a.toList) (fun x hx => h x (.inl hx)), evs_congr (xs := b.toList) (fun x hx => h x (.inr hx))]
    case slice t x lo hi mx =>
      rw [h x (by simp)]
      have e1 : lo.bind (ev e) = lo.bind (ev e') := by cases lo <;> simp_all
      have e2 : hi.bind (ev e) = hi.bind (ev e') := by cases hi <;> simp_all
      have e3 : mx.bind (ev e) = mx.bind (ev e') := by cases mx <;> simp_all
      rw [e1, e2, e3]
    case fieldAddr t x i => rw [h x rfl]
    case field t x i => rw [h x rfl]
    case indexAddr t x i => rw [h x (by simp), h i (by simp)]
    case index t x i => rw [h x (by simp), h i (by simp)]
    case lookup t m k ok => rw [h m (by simp), h k (by simp)]
    case extract t i => rw [h t rfl]
    case typeAssert x t a ok => rw [h x rfl]
    case call c =>
      obtain ⟨callee, args, ats⟩ := c
      cases callee <;> (try dsimp only)
      rw [evs_congr (xs := args.toList) (fun x hx => h x (by simp [Call.operands]; exact (by simpa using hx)))]
  · cases hop : o.op <;> simp only [hop, Op.operands, Agree, Array.toList_append, List.mem_append] at h <;> (try dsimp only)
    case slice t x lo hi mx =>
      have e1 : optsOk e lo = optsOk e' lo := by cases lo <;> simp_all [optsOk]
      have e2 : optsOk e hi = optsOk e' hi := by cases hi <;> simp_all [optsOk]
      have e3 : optsOk e mx = optsOk e' mx := by cases mx <;> simp_all [optsOk]
      rw [e1, e2, e3]
theorem newA_congr {e e' : Env} {o : Oper} (h : Agree o.op.operands.toList e e') (k kh : Nat) : newA P cx σ e k kh o = newA P cx σ e' k kh o := by
  unfold newA
  cases o.dst with
  | none => rfl
  | some d =>
    try dsimp only
    split
    · rfl
    · cases hop : o.op <;> simp only [hop, Op.operands, Agree, List.mem_cons, List.not_mem_nil, or_false] at h <;> (try dsimp only)
      case box t x => rw [h x rfl]
      case buildSlice t n ps => rw [evps_congr (fun p hp => h p.2 (by simp only [List.mem_map]; exact ⟨p, hp, rfl⟩))]
      case makeSlice t l c => rw [h l (by simp), h c (by simp)]
      case makeMap t r => cases r <;> rfl
theorem qstep_congr {ops : Array Oper} {e e' : Env} {o : Oper} (h : Agree o.op.operands.toList e e') (hg : wantedA ops.toList e o = wantedA ops.toList e' o) (k kh : Nat) :
    qstep P cx call σ ops.toList k kh e o = qstep P cx call σ ops.toList k kh e' o := by
  unfold qstep
  rw [hg, (valA_congr (P := P) (σ := σ) h).1, (valA_congr (P := P) (σ := σ) h).2, newA_congr (P := P) (cx := cx) (σ := σ) h]
  split
  · split
    · rfl
    · split
      · rfl
      · cases hop : o.op <;> (try dsimp only)
        rename_i c
        obtain ⟨callee, args, ats⟩ := c
        cases callee <;> (try dsimp only)
        rename_i f
        simp only [hop, Op.operands, Agree, Call.operands] at h
        rw [h f (by simp), evs_congr (xs := args.toList) (fun x hx => h x (by simp; exact .inr (by simpa using hx)))]
  · rfl
theorem env_put_ne {e : Env} {d t : Nat} {v : AV} (h : d ≠ t) : Env.get (e.set d v) t = Env.get e t := by
  simp only [Env.get, List.getD, List.getElem?_set_ne h]
theorem agree_put {ops : Array Oper} {o : Oper} {e : Env} {dst : Option Tmp} {v : AV} (h : ∀ d, dst = some d → d ∉ o.looksAt ops) : Agree o.op.operands.toList (putE e dst v) e := by
  cases dst with
  | none => intro x _; rfl
  | some d =>
    intro x hx
    have hd := h d rfl
    cases x with
    | tmp t =>
      have hne : d ≠ t := by
        intro hh
        subst hh
        apply hd
        unfold Oper.looksAt
        rw [List.mem_append]
        left
        rw [List.mem_filterMap]
        exact ⟨.tmp d, hx, rfl⟩
      simp only [ev, putE, env_put_ne hne]
    | _ => rfl
theorem wanted_put' {ops : Array Oper} {o : Oper} {e : Env} {dst : Option Tmp} {v : AV} (h : ∀ d, dst = some d → d ∉ o.looksAt ops) : wantedA ops.toList (putE e dst v) o = wantedA ops.toList e o := by
  cases dst with
  | none => rfl
  | some d =>
    have hd := h d rfl
    unfold wantedA
    cases hg : o.guard with
    | none => rfl
    | some p =>
      obtain ⟨j, want⟩ := p
      simp only [yieldedA]
      cases hb : (ops.toList[j]?).bind (·.dst) with
      | none => rfl
      | some t =>
        have hne : d ≠ t := by
          intro hh
          subst hh
          apply hd
          unfold Oper.looksAt
          rw [List.mem_append, hg]
          right
          simp only [Array.getElem?_toList] at hb
          simp [hb]
        simp only [putE, env_put_ne hne]
theorem putE_comm {e : Env} {x y : Option Tmp} {v u : AV} (h : ∀ d, x = some d → y ≠ some d) : putE (putE e x v) y u = putE (putE e y u) x v := by
  cases x with
  | none => rfl
  | some d => cases y with
    | none => rfl
    | some t =>
      have hne : d ≠ t := fun hh => h d rfl (hh ▸ rfl)
      simp only [putE]
      exact List.set_comm _ _ hne
theorem AS.set_comm {σ : AS} {L L' : Loc} {a b : AObj} (h : L ≠ L') : (σ.set L a).set L' b = (σ.set L' b).set L a := by
  cases L <;> cases L' <;> simp only [AS.set]
  · rename_i i j; rw [List.set_comm _ _ (by intro e; exact h (by rw [e]))]
  · rename_i i j; rw [List.set_comm _ _ (by intro e; exact h (by rw [e]))]
end
end Go.Abs
end
section
namespace Go.Abs
theorem SR.fill {ρ : Rho} {σ : AS} {w w' : World} (s : SR ρ σ w) {L : Loc} {ob : AObj} {p : Place} (hg : σ.get L = some .dead) (hno : ρ L = none) (hlive : p.live = true) (hb : p.b = w.heap.size)
    (hheap : ∀ b, b < w.heap.size → w'.heap[b]? = w.heap[b]?) (hsize : w.heap.size < w'.heap.size) (hos : w'.os = w.os) (htape : w'.tape = w.tape) (hout : w'.output = w.output)
    (hin : ∀ i cs, L = .hp i → ob = .cells cs → AVs.inb 0 cs = true)
    (hOR : Ext ρ w (upd ρ L p) w' → OR (upd ρ L p) w' p ob) : SR (upd ρ L p) (σ.set L ob) w' ∧ Ext ρ w (upd ρ L p) w' := by
  have hext : Ext ρ w (upd ρ L p) w' := by
    refine ⟨fun L' q hq => ?_, fun b hb1 hf => ⟨⟨fun L' q hq hl => ?_, hf.2⟩, hheap b hb1⟩, ⟨rfl, fun b hb1 _ => hheap b hb1⟩, Nat.le_of_lt hsize, hos, htape, hout⟩
    · have e : L' ≠ L := by intro h; rw [h, hno] at hq; cases hq
      exact ⟨q, by rw [upd_ne e]; exact hq, rfl, Nat.le_refl _, fun _ => ⟨rfl, rfl, rfl, rfl⟩, fun _ => rfl⟩
    · by_cases e : L' = L
      · subst e
        rw [upd_same] at hq
        cases hq
        omega
      · rw [upd_ne e] at hq; exact hf.1 L' q hq hl
  have hgot : (σ.get L).isSome = true := by rw [hg]; rfl
  refine ⟨⟨⟨fun L' ob' ho hnd => ?_⟩, fun L' q hq => ?_, fun L1 L2 p1 p2 h1 h2 l1 l2 eb => ?_, fun L' q hq hl => ?_, fun i cs hc => ?_, fun L' q hq hl => ?_, fun b hb => Nat.lt_trans (s.resl b hb) hsize, hext.glb s⟩, hext⟩
  · rw [AS.get_set] at ho
    by_cases e : L' = L
    · rw [if_pos e, hgot] at ho
      simp only [if_true, Option.some.injEq] at ho
      subst ho
      exact ⟨p, by rw [e, upd_same], hOR hext⟩
    · rw [if_neg e] at ho
      obtain ⟨q, hq, hO⟩ := s.objD L' ob' ho hnd
      exact ⟨q, by rw [upd_ne e]; exact hq, hO.mono hext fun hl => hheap _ (s.lt L' q hq hl)⟩
  · by_cases e : L' = L
    · exact ⟨ob, by rw [AS.get_set, if_pos e, hgot]; rfl⟩
    · rw [upd_ne e] at hq
      obtain ⟨ob', ho⟩ := s.dom L' q hq
      exact ⟨ob', by rw [AS.get_set, if_neg e]; exact ho⟩
  · by_cases e1 : L1 = L
    · by_cases e2 : L2 = L
      · rw [e1, e2]
      · rw [e1, upd_same] at h1
        cases h1
        rw [upd_ne e2] at h2
        have := s.lt L2 p2 h2 l2; omega
    · rw [upd_ne e1] at h1
      by_cases e2 : L2 = L
      · rw [e2, upd_same] at h2
        cases h2
        have := s.lt L1 p1 h1 l1; omega
      · rw [upd_ne e2] at h2
        exact s.inj L1 L2 p1 p2 h1 h2 l1 l2 eb
  · by_cases e : L' = L
    · rw [e, upd_same] at hq
      cases hq
      omega
    · rw [upd_ne e] at hq
      exact Nat.lt_of_lt_of_le (s.lt L' q hq hl) (Nat.le_of_lt hsize)
  · rw [AS.get_set] at hc
    by_cases e1 : Loc.hp i = L
    · rw [if_pos e1, hgot] at hc
      simp only [if_true, Option.some.injEq] at hc
      exact hin i cs e1.symm hc
    · rw [if_neg e1] at hc
      exact s.hin i cs hc
  · by_cases e : L' = L
    · rw [e, upd_same] at hq
      cases hq
      intro hr
      have := s.resl _ hr
      omega
    · rw [upd_ne e] at hq
      exact s.nres L' q hq hl
def Newly (P : Program) (ρ : Rho) (w : World) (ob : AObj) (v : AV) (L : Loc) (m : Sem Value) : Prop :=
  ∃ u w' p, m.run P w = .ok u w' ∧ p.live = true ∧ p.b = w.heap.size ∧ (∀ b, b < w.heap.size → w'.heap[b]? = w.heap[b]?) ∧ w.heap.size < w'.heap.size ∧ w'.os = w.os ∧ w'.tape = w.tape ∧ w'.output = w.output ∧
    ∀ ρ', Ext ρ w ρ' w' → ρ' L = some p → OR ρ' w' p ob ∧ VR ρ' w' v u
section
variable {P : Program} {cx : Cx}
theorem newly_cells {ρ : Rho} {w : World} {cs : List AV} {us : Array Value} {E : TypeId} {L : Loc} {m : Sem Value} (hc : VRs ρ w cs us.toList)
    (hm : m.run P w = .ok (.pointer (some ⟨w.heap.size, 0, none⟩)) (w.alloc (.cells us E))) : Newly P ρ w (.cells cs) (.ptr L 0) L m := by
  refine ⟨_, _, { b := w.heap.size, o := 0, sz := 1, cap := 0, ver := 0, row := false, live := true }, hm, rfl, rfl, fun b hb => heap_alloc_old w _ b hb, by simp, rfl, rfl, rfl, fun ρ' x hL => ⟨⟨rfl, rfl, us, E, heap_alloc_new w _, by simpa using hc.1, fun i c v hci hv => (hc.2 i c v hci (by simpa using hv)).mono x⟩, .ptr L 0 _ hL rfl⟩⟩
theorem newly_row {ρ : Rho} {w : World} {es : List AV} {sz cap n : Nat} {us : Array Value} {E : TypeId} {L : Loc} {m : Sem Value} (hpos : 0 < sz) (hok : ∀ e ∈ es, okE sz e = true) (hcap : es.length ≤ cap) (hsz : cap * sz ≤ us.size)
    (hval : ∀ (i : Nat) (e : AV) (j : Nat) (c : AV) (u : Value), es[i]? = some e → e.cells[j]? = some c → us[i * sz + j]? = some u → VR ρ w c u) (hn : n ≤ cap)
    (hm : m.run P w = .ok (.slice (some ⟨w.heap.size, 0, none⟩) n cap) (w.alloc (.cells us E))) : Newly P ρ w (.row es sz 0 false) (.row L 0 0 n) L m := by
  refine ⟨_, _, { b := w.heap.size, o := 0, sz := sz, cap := cap, ver := 0, row := true, live := true }, hm, rfl, rfl, fun b hb => heap_alloc_old w _ b hb, by simp, rfl, rfl, rfl, fun ρ' x hL => ⟨⟨rfl, rfl, rfl, hpos, rfl, hcap, hok, (fun h => by cases h), us, E, (0, 0), heap_alloc_new w _, by simpa using hsz, .inl (Nat.le_refl _), fun i e j c u he hc hu => (hval i e j c u he hc (by simpa using hu)).mono x⟩,
    .row L 0 0 n _ _ cap hL rfl (Nat.le_refl _) hn (fun _ => ⟨rfl, fun _ => by simp⟩)⟩⟩
theorem withCells_self {v : AV} (h : v.one = true ∨ ∃ cs, v = .agg cs) : v.withCells v.cells = some v := by
  rcases h with h | ⟨cs, rfl⟩
  · cases v <;> simp [AV.one] at h <;> simp [AV.withCells, AV.cells, AV.one]
  · rfl
theorem rowPartsQ_sound {ρ : Rho} {w : World} {sz : Nat} : ∀ (ps : List (Nat × AV)) (us : List (Nat × Value)) (es es' : List AV) (vs : Array Value), ps.map (·.1) = us.map (·.1) →
    VRs ρ w (ps.map (·.2)) (us.map (·.2)) → RowAt ρ w sz es vs → (∀ e ∈ es, okE sz e = true) → rowPartsQ sz ps es = some es' →
    ∃ vs', Instr.fill (fun i => some (i * sz, sz)) vs us = some vs' ∧ RowAt ρ w sz es' vs' ∧ (∀ e ∈ es', okE sz e = true) ∧ es'.length = es.length
  | [], us, es, es', vs, h1, h2, hR, hok, h => by
    have : us = [] := by simpa using h1.symm
    subst this
    simp only [rowPartsQ, Option.some.injEq] at h
    subst h
    exact ⟨vs, rfl, hR, hok, rfl⟩
  | (i, x) :: ps, [], es, es', vs, h1, h2, hR, hok, h => by simp at h1
  | (i, x) :: ps, (j, u) :: us, es, es', vs, h1, h2, hR, hok, h => by
    simp only [List.map_cons, List.cons.injEq] at h1
    obtain ⟨rfl, h1⟩ := h1
    obtain ⟨u', us', he, hxu, h2'⟩ := h2.cons_inv
    simp only [List.map_cons, List.cons.injEq] at he
    obtain ⟨rfl, rfl⟩ := he
    simp only [rowPartsQ] at h
    split at h
    · rename_i hcond
      obtain ⟨hi, _, hokx⟩ := hcond
      have hcl := hxu.cells
      have hul : u.cells.size = sz := by rw [← okE_len hokx]; simpa using hcl.1.symm
      have hlt : (i + 1) * sz ≤ es.length * sz := Nat.mul_le_mul_right _ hi
      rw [Nat.add_mul] at hlt
      have hvs := hR.1
      have hf := foldl_lay (i * sz) u.cells.toList 0 vs
      simp only [Nat.add_zero] at hf
      have e : (u.cells.zipIdx.foldl (fun cs (x : Value × Nat) => cs.setIfInBounds (i * sz + x.2) x.1) vs) = (u.cells.toList.zipIdx 0).foldl (fun cs (p : Value × Nat) => cs.setIfInBounds (i * sz + p.2) p.1) vs := by
        rw [← Array.foldl_toList, Array.toList_zipIdx]
      obtain ⟨vs', f2, R2, ok2, l2⟩ := rowPartsQ_sound ps us (es.set i x) es' ((u.cells.toList.zipIdx 0).foldl (fun cs (p : Value × Nat) => cs.setIfInBounds (i * sz + p.2) p.1) vs) h1 h2'
        ⟨by rw [hf.1, hvs]; simp, fun k d m c v hd hc hv => by
          have hds : d.cells.length = sz := by
            rcases List.mem_or_eq_of_mem_set (getElem?_mem' hd) with h | h
            · exact okE_len (hok d h)
            · rw [h]; exact okE_len hokx
          have hm : m < sz := by rw [← hds]; exact (List.getElem?_eq_some_iff.1 hc).1
          have hk : k * sz + m < vs.size := by rw [← hf.1]; exact (Array.getElem?_eq_some_iff.1 hv).1
          rw [hf.2 _ hk] at hv
          simp only [Array.length_toList, hul] at hv
          rw [List.getElem?_set] at hd
          by_cases hik : i = k
          · subst hik
            rw [if_pos rfl, if_pos hi] at hd
            cases hd
            rw [if_pos (by omega)] at hv
            have : i * sz + m - i * sz = m := by omega
            rw [this] at hv
            exact hcl.2 m c v hc hv
          · rw [if_neg hik] at hd
            rw [if_neg (by
              intro ⟨a1, a2⟩
              rcases Nat.lt_or_gt_of_ne hik with h | h
              · have : (i + 1) * sz ≤ k * sz := Nat.mul_le_mul_right _ h
                rw [Nat.add_mul] at this; omega
              · have : (k + 1) * sz ≤ i * sz := Nat.mul_le_mul_right _ h
                rw [Nat.add_mul] at this; omega)] at hv
            exact hR.2 k d m c v hd hc hv⟩
        (fun d hd => by rcases List.mem_or_eq_of_mem_set hd with h | h; exact hok d h; rw [h]; exact hokx) h
      refine ⟨vs', ?_, R2, ok2, by simpa using l2⟩
      rw [Instr.fill]
      simp only
      rw [if_neg (by simp; omega), e]
      exact f2
    · cases h
theorem newA_sound {ρ : Rho} {σ : AS} {w : World} {env : Env} {a : Act} (hE : ER ρ w env a.tmps) {k kh : Nat} {o : Oper} {v : AV} {ob : AObj} (h : newA P cx σ env k kh o = some (v, ob)) :
    ∃ m, execOp a.eval o = (do pure (.value (← m))) ∧ Newly P ρ w ob v (newLoc σ (escNew cx o) k kh) m ∧ (escNew cx o = true → ∀ cs, ob = .cells cs → AVs.inb 0 cs = true) ∧ ob ≠ .dead ∧ (escNew cx o = true → cx.ro.isNone = true) ∧ isNew o = true := by
  unfold newA at h
  split at h
  · cases h
  · rename_i d hd
    split at h
    · cases h
    · rename_i hesc
      have hro : ∀ o' : Oper, o'.dst = some d → escNew cx o' = true → cx.ro.isNone = true := fun o' h1 h2 => by
        unfold escNew at h2
        rw [h1] at h2
        simp only [Bool.and_eq_true] at h2
        simp only [Bool.and_eq_true, Bool.not_eq_true', not_and, Bool.not_eq_false] at hesc
        exact hesc h2.2
      have hen : isNew o = true → escNew cx o = cx.esc.contains d := fun h => by unfold escNew; rw [hd, h]; simp
      split at h
      · rename_i t hop
        have hnew : isNew o = true := by simp [isNew, hop]
        rw [hen hnew]
        split at h
        · rename_i z hz
          split at h
          · rename_i hin
            cases h
            obtain ⟨zv, z1, z2⟩ := VR.zero (ρ := ρ) (w := w) (w' := w) hz
            refine ⟨Instr.alloc t true (.tuple #[]), by simp [execOp, hop], newly_cells (E := t) z2.cells (by simp [Instr.alloc, z1, newVar, newRow]), (fun _ cs h => by cases h; exact hin), by (intro h; cases h), fun h => hro o hd (by rw [hen hnew]; exact h), hnew⟩
          · cases h
        · cases h
      · rename_i t x hop
        have hnew : isNew o = true := by simp [isNew, hop]
        rw [hen hnew]
        split at h
        · rename_i xv hx
          split at h
          · rename_i hcond
            cases h
            refine ⟨Instr.box t (a.eval x), by simp [execOp, hop], newly_cells (E := t) (ev_sound hE hx).cells (by simp [Instr.box, newVar, newRow]), (fun he cs h => by cases h; unfold boxOk at hcond; rw [he] at hcond; simp at hcond; exact hcond.2), by (intro h; cases h), fun h => hro o hd (by rw [hen hnew]; exact h), hnew⟩
          · cases h
        · cases h
      · rename_i t n parts hop
        have hnew : isNew o = true := by simp [isNew, hop]
        split at h
        · rename_i ps e hps he
          split at h
          · rename_i z sz hz hsz
            split at h
            · rename_i hcond
              obtain ⟨hpos, hle, hzok, hnesc⟩ := hcond
              have hef : escNew cx o = false := by rw [hen hnew]; exact hnesc
              split at h
              · rename_i es hrp
                cases h
                obtain ⟨e1, e2⟩ := evps_sound hE hps
                have e3 : (parts.map fun (i, x) => (i, a.eval x)) = (parts.toList.map fun p => (p.1, a.eval p.2)).toArray := by
                  apply Array.ext'; simp
                obtain ⟨zv, z1, z2⟩ := VR.zero (ρ := ρ) (w := w) (w' := w) hz
                obtain ⟨vs, f1, R1, ok1, l1⟩ := rowPartsQ_sound ps (parts.toList.map fun p => (p.1, a.eval p.2)) _ es _ (by rw [List.map_map]; exact e1) (by rw [List.map_map]; exact e2) (replicate_row z2 hzok n) (fun e he => by rw [List.eq_of_mem_replicate he]; exact hzok) hrp
                have hlen : es.length = n := by simpa using l1
                have hund := elemA_und he
                rw [hef]
                refine ⟨Instr.buildSlice t n (parts.toList.map fun p => (p.1, a.eval p.2)).toArray, by simp only [execOp, hop, e3], newly_row (us := vs) (E := e) (cap := n) hpos ok1 (by omega) (by rw [R1.1, hlen]; exact Nat.le_refl _) R1.2 (Nat.le_refl _) ?_, (fun h => by cases h), by (intro h; cases h), (fun h => by cases h), hnew⟩
                simp only [Instr.buildSlice, Sem.run_bind, run_underlying hund, Result.andThen_ok, run_sizeA hsz]
                rw [if_neg (by omega)]
                by_cases hn : n * sz = 0
                · have e0 : ∀ zero : Array Value, (Array.range (n * sz)).map (zero[· % zero.size]!) = #[] := fun zero => by rw [hn]; simp
                  rw [e0] at f1
                  rw [if_pos hn]
                  simp only [Sem.run_bind, Sem.run_pure, Result.andThen_ok, e0, f1]
                  simp [newRow]
                · rw [if_neg hn]
                  simp only [Sem.run_bind, z1, Sem.run_pure, Result.andThen_ok, f1]
                  simp [newRow]
              · cases h
            · cases h
          · cases h
        · cases h
      · rename_i t hop
        have hnew : isNew o = true := by simp [isNew, hop]
        rw [hen hnew]
        split at h
        · cases h
          refine ⟨Instr.makeMap t none, by simp [execOp, hop], ?_, (fun _ cs h => by cases h), by (intro h; cases h), fun h => hro o hd (by rw [hen hnew]; exact h), hnew⟩
          refine ⟨_, _, { b := w.heap.size, o := 0, sz := 1, cap := 0, ver := 0, row := false, live := true }, by simp [Instr.makeMap], rfl, rfl, fun b hb => heap_alloc_old w _ b hb, by simp, rfl, rfl, rfl, fun ρ' x hL => ⟨⟨rfl, rfl, #[], 0, heap_alloc_new w _, rfl, MapKept.stamped_empty 0, fun i e m he => by simp at he⟩, .map _ _ hL rfl⟩⟩
        · cases h
      · rename_i t l c hop
        have hnew : isNew o = true := by simp [isNew, hop]
        split at h
        · rename_i e n m he hl hm
          split at h
          · rename_i z sz b hz hsz hb
            split at h
            · rename_i hcond
              obtain ⟨hpos, hzok, h0, hnk, hkb, hk, hnesc⟩ := hcond
              have hef : escNew cx o = false := by rw [hen hnew]; exact hnesc
              cases h
              obtain ⟨zv, z1, z2⟩ := VR.zero (ρ := ρ) (w := w) (w' := w) hz
              obtain ⟨ti, t1, t2⟩ := run_bytesA hb w
              have hund := elemA_und he
              have hR := replicate_row z2 hzok m.toNat
              have hw1 : IntKind.i64.wrap n = n := wrap64_small (by omega) (by omega)
              have hw2 : IntKind.i64.wrap m = m := wrap64_small (by omega) (by omega)
              have hbk : (b : Int) * m = m * b := Int.mul_comm _ _
              have c1 : ¬ (281474976710656 < (b : Int) * m) := by rw [hbk]; omega
              have hlv := (ev_sound hE hl).int_inv
              have hmv := (ev_sound hE hm).int_inv
              rw [hef]
              refine ⟨Instr.makeSlice t (a.eval l) (a.eval c), by simp [execOp, hop], newly_row (us := (Array.range (m.toNat * sz)).map (zv.cells[· % zv.cells.size]!)) (E := e) (cap := m.toNat) hpos (fun d hd => by rw [List.eq_of_mem_replicate hd]; exact hzok) (by simp; omega) (by simp)
                (fun i d j c u hd hc hu => by
                  refine hR.2 i d j c u ?_ hc hu
                  rw [List.getElem?_replicate] at hd ⊢
                  split at hd
                  · rw [if_pos (by omega)]; exact hd
                  · cases hd) (by omega) ?_, (fun h => by cases h), by (intro h; cases h), (fun h => by cases h), hnew⟩
              rw [hlv, hmv]
              simp only [Instr.makeSlice, Sem.run_bind, run_underlying hund, Result.andThen_ok, asInt, asIntOf, Sem.run_pure, t1, t2, hw1, hw2]
              rw [if_neg (by simp; omega)]
              by_cases hn : m.toNat * sz = 0
              · have e0 : ∀ zero : Array Value, (Array.range (m.toNat * sz)).map (zero[· % zero.size]!) = #[] := fun zero => by rw [hn]; simp
                simp only [Sem.run_bind, Result.andThen_ok, run_askRoom, run_sizeA hsz]
                rw [if_pos hn]
                simp only [Sem.run_bind, Result.andThen_ok, Sem.run_pure, e0]
                simp [newRow]
              · simp only [Sem.run_bind, Result.andThen_ok, run_askRoom, run_sizeA hsz]
                rw [if_neg hn]
                simp [z1, newRow]
            · cases h
          · cases h
        · cases h
      · cases h
end
end Go.Abs
end
section
namespace Go.Abs
section
variable {P : Program} {cx : Cx} {call : Caller} {σ : AS} {ops : Array Oper}
def cnt (p : Oper → Bool) (l : List Oper) (i : Nat) : Nat := ((l.take i).filter p).length
theorem cnt_succ {p : Oper → Bool} {l : List Oper} {i : Nat} {o : Oper} (h : l[i]? = some o) : cnt p l (i + 1) = cnt p l i + if p o = true then 1 else 0 := by
  unfold cnt
  rw [List.take_add_one, h, List.filter_append, List.length_append]
  simp only [Option.toList_some, List.filter_cons, List.filter_nil]
  split <;> simp
theorem cnt_mono {p : Oper → Bool} {l : List Oper} {i j : Nat} (h : i ≤ j) : cnt p l i ≤ cnt p l j := by
  unfold cnt
  have : (l.take i) <+: (l.take j) := List.take_prefix_take_left h
  exact (this.sublist.filter p).length_le
def slot (cx : Cx) (σ : AS) (ops : Array Oper) (i : Nat) (o : Oper) : Loc := newLoc σ (escNew cx o) (cnt (newSt cx) ops.toList i) (cnt (newHp cx) ops.toList i)
theorem slot_ne {i j : Nat} {oi oj : Oper} (hi : ops[i]? = some oi) (hj : ops[j]? = some oj) (ni : isNew oi = true) (nj : isNew oj = true) (h : i ≠ j) : slot cx σ ops i oi ≠ slot cx σ ops j oj := by
  have key : ∀ (i j : Nat) (oi oj : Oper), ops[i]? = some oi → ops[j]? = some oj → isNew oi = true → isNew oj = true → i < j → slot cx σ ops i oi ≠ slot cx σ ops j oj := by
    intro i j oi oj hi hj ni nj hlt
    have hi' : ops.toList[i]? = some oi := by simpa using hi
    unfold slot newLoc
    cases he : escNew cx oi <;> cases hf : escNew cx oj <;> simp only [Bool.false_eq_true, if_false, if_true, ne_eq, reduceCtorEq, not_false_eq_true, Loc.st.injEq, Loc.hp.injEq]
    · have h1 := cnt_succ (p := newSt cx) hi'
      have h2 := cnt_mono (p := newSt cx) (l := ops.toList) (i := i + 1) (j := j) hlt
      have : newSt cx oi = true := by simp [newSt, ni, he]
      rw [this] at h1
      simp only [if_true] at h1
      omega
    · have h1 := cnt_succ (p := newHp cx) hi'
      have h2 := cnt_mono (p := newHp cx) (l := ops.toList) (i := i + 1) (j := j) hlt
      have : newHp cx oi = true := by simp [newHp, ni, he]
      rw [this] at h1
      simp only [if_true] at h1
      omega
  rcases Nat.lt_or_gt_of_ne h with h | h
  · exact key i j oi oj hi hj ni nj h
  · exact (key j i oj oi hj hi nj ni h).symm
def qs (P : Program) (cx : Cx) (call : Caller) (σ : AS) (ops : Array Oper) (i : Nat) (s : Env × AS) : Option (Env × AS) :=
  match ops[i]? with
  | none => none
  | some o => match qstep P cx call σ ops.toList (cnt (newSt cx) ops.toList i) (cnt (newHp cx) ops.toList i) s.1 o with
    | some (v, none) => some (putE s.1 o.dst v, s.2)
    | some (v, some ob) => match s.2.get (slot cx σ ops i o) with
      | some .dead => some (putE s.1 o.dst v, s.2.set (slot cx σ ops i o) ob)
      | _ => none
    | none => none
theorem qstep_new {k kh : Nat} {env : Env} {o : Oper} {v : AV} {ob : AObj} {all : List Oper} (h : qstep P cx call σ all k kh env o = some (v, some ob)) : isNew o = true := by
  unfold qstep at h
  split at h
  · split at h
    · split at h
      · split at h <;> cases h
      · cases h
    · split at h
      · assumption
      · split at h
        · split at h
          · split at h
            · split at h
              · split at h
                · split at h <;> cases h
                · cases h
              · cases h
            · cases h
          · cases h
        · cases h
  · split at h
    · assumption
    · cases h
theorem qs_comm (i j : Nat) (oi oj : Oper) (hi : ops[i]? = some oi) (hj : ops[j]? = some oj) (hij : i ≠ j) (hap : oi.apart ops oj = true) (s s1 s2 : Env × AS) (h1 : qs P cx call σ ops i s = some s1) (h2 : qs P cx call σ ops j s1 = some s2) :
    ∃ s1', qs P cx call σ ops j s = some s1' ∧ qs P cx call σ ops i s1' = some s2 := by
  obtain ⟨a1, a2, a3⟩ := Oper.apart_spec hap
  unfold qs at h1 h2 ⊢
  rw [hi] at h1
  rw [hj] at h2
  simp only [hi, hj] at h1 h2 ⊢
  have hqj : ∀ v, qstep P cx call σ ops.toList (cnt (newSt cx) ops.toList j) (cnt (newHp cx) ops.toList j) (putE s.1 oi.dst v) oj = qstep P cx call σ ops.toList (cnt (newSt cx) ops.toList j) (cnt (newHp cx) ops.toList j) s.1 oj :=
    fun v => qstep_congr (agree_put (ops := ops) a1) (wanted_put' a1) _ _
  have hqi : ∀ v, qstep P cx call σ ops.toList (cnt (newSt cx) ops.toList i) (cnt (newHp cx) ops.toList i) (putE s.1 oj.dst v) oi = qstep P cx call σ ops.toList (cnt (newSt cx) ops.toList i) (cnt (newHp cx) ops.toList i) s.1 oi :=
    fun v => qstep_congr (agree_put (ops := ops) a3) (wanted_put' a3) _ _
  split at h1
  · rename_i vi hvi
    cases h1
    simp only at h2
    rw [hqj] at h2
    split at h2
    · rename_i vj hvj
      cases h2
      refine ⟨(putE s.1 oj.dst vj, s.2), by first | rfl | rw [hvj], ?_⟩
      simp only
      rw [hqi, hvi]
      rw [putE_comm a2]
    · rename_i vj obj hvj
      split at h2
      · rename_i hd
        cases h2
        refine ⟨(putE s.1 oj.dst vj, s.2.set (slot cx σ ops j oj) obj), by first | rfl | (rw [hd]; done) | (rw [hd]) | (rw [hvj]; simp only; rw [hd]), ?_⟩
        simp only
        rw [hqi, hvi]
        rw [putE_comm a2]
      · cases h2
    · cases h2
  · rename_i vi obi hvi
    have ni := qstep_new hvi
    split at h1
    · rename_i hdi
      cases h1
      simp only at h2
      rw [hqj] at h2
      split at h2
      · rename_i vj hvj
        cases h2
        refine ⟨(putE s.1 oj.dst vj, s.2), by first | rfl | rw [hvj], ?_⟩
        simp only
        rw [hqi, hvi]
        simp only
        rw [hdi]
        rw [putE_comm a2]
      · rename_i vj obj hvj
        have nj := qstep_new hvj
        have hne := slot_ne (cx := cx) (σ := σ) hi hj ni nj hij
        split at h2
        · rename_i hd
          cases h2
          rw [AS.get_set, if_neg hne.symm] at hd
          refine ⟨(putE s.1 oj.dst vj, s.2.set (slot cx σ ops j oj) obj), by first | rfl | (rw [hd]; done) | (rw [hd]) | (rw [hvj]; simp only; rw [hd]), ?_⟩
          simp only
          rw [hqi, hvi]
          simp only
          rw [AS.get_set, if_neg hne, hdi]
          simp only
          rw [putE_comm a2, AS.set_comm hne]
        · cases h2
      · cases h2
    · cases h1
  · cases h1
theorem quietA_runS : ∀ (os : List Oper) (i m : Nat) (env env' : Env) (ns ns' nh nh' : List AObj), (∀ k, k < m → os[k]? = ops.toList[i + k]?) → os.length = m → i + m ≤ ops.size →
    ns.length = cnt (newSt cx) ops.toList i → nh.length = cnt (newHp cx) ops.toList i → quietA P cx call σ ops.toList os env ns nh = some (env', ns', nh') →
    ns'.length = cnt (newSt cx) ops.toList (i + m) ∧ nh'.length = cnt (newHp cx) ops.toList (i + m) ∧
    runS (qs P cx call σ ops) m i (env, { hp := σ.hp ++ nh ++ List.replicate (cnt (newHp cx) ops.toList (i + m) - cnt (newHp cx) ops.toList i) .dead, st := σ.st ++ ns ++ List.replicate (cnt (newSt cx) ops.toList (i + m) - cnt (newSt cx) ops.toList i) .dead }) =
      some (env', { hp := σ.hp ++ nh', st := σ.st ++ ns' })
  | [], i, m, env, env', ns, ns', nh, nh', hos, hl, hle, h1, h2, h => by
    have : m = 0 := by simpa using hl.symm
    subst this
    simp only [quietA, Option.some.injEq, Prod.mk.injEq] at h
    obtain ⟨rfl, rfl, rfl⟩ := h
    refine ⟨h1, h2, ?_⟩
    simp [runS]
  | o :: os, i, m, env, env', ns, ns', nh, nh', hos, hl, hle, h1, h2, h => by
    obtain ⟨m, rfl⟩ : ∃ k, m = k + 1 := ⟨m - 1, by simp at hl; omega⟩
    have h0 : ops.toList[i]? = some o := by have := hos 0 (by omega); simpa using this.symm
    have h0' : ops[i]? = some o := by simpa using h0
    have hos' : ∀ k, k < m → os[k]? = ops.toList[i + 1 + k]? := fun k hk => by
      have := hos (k + 1) (by omega)
      simpa [Nat.add_assoc, Nat.add_comm 1 k] using this
    have e1 : i + (m + 1) = i + 1 + m := by omega
    have c1 := cnt_succ (p := newSt cx) h0
    have c2 := cnt_succ (p := newHp cx) h0
    have m1 := cnt_mono (p := newSt cx) (l := ops.toList) (i := i + 1) (j := i + 1 + m) (by omega)
    have m2 := cnt_mono (p := newHp cx) (l := ops.toList) (i := i + 1) (j := i + 1 + m) (by omega)
    simp only [quietA] at h
    rw [e1]
    simp only [runS, qs, h0']
    rw [h1, h2] at h
    split at h
    · rename_i v hv
      have hnn : isNew o = false := by
        cases hn : isNew o with
        | false => rfl
        | true =>
          exfalso
          unfold qstep at hv
          rw [hn] at hv
          split at hv
          · split at hv
            · rename_i hval
              unfold isNew isVal at *
              cases hop : o.op <;> simp_all
            · simp only [if_true] at hv
              split at hv <;> cases hv
          · simp only [if_true] at hv
            cases hv
      have p1 : newSt cx o = false := by simp [newSt, hnn]
      have p2 : newHp cx o = false := by simp [newHp, hnn]
      rw [p1] at c1
      rw [p2] at c2
      simp only [Bool.false_eq_true, if_false, Nat.add_zero] at c1 c2
      have := quietA_runS os (i + 1) m (putE env o.dst v) env' ns ns' nh nh' hos' (by simpa using hl) (by omega) (by rw [h1, c1]) (by rw [h2, c2]) h
      rw [hv]
      simp only
      rw [c1, c2] at this
      exact this
    · rename_i v ob hv
      have hnn := qstep_new hv
      rw [hv]
      simp only
      split at h
      · rename_i hesc
        have p1 : newSt cx o = false := by simp [newSt, hesc]
        have p2 : newHp cx o = true := by simp [newHp, hnn, hesc]
        rw [p1] at c1
        rw [p2] at c2
        simp only [Bool.false_eq_true, if_false, Nat.add_zero, if_true] at c1 c2
        have hslot : slot cx σ ops i o = .hp (σ.hp.length + nh.length) := by simp [slot, newLoc, hesc, h2]
        have := quietA_runS os (i + 1) m (putE env o.dst v) env' ns ns' (nh ++ [ob]) nh' hos' (by simpa using hl) (by omega) (by rw [h1, c1]) (by simp [h2, c2]) h
        obtain ⟨t1, t2, t3⟩ := this
        refine ⟨t1, t2, ?_⟩
        have hd : cnt (newHp cx) ops.toList (i + 1 + m) - cnt (newHp cx) ops.toList i = (cnt (newHp cx) ops.toList (i + 1 + m) - cnt (newHp cx) ops.toList (i + 1)) + 1 := by omega
        rw [hd, List.replicate_succ, hslot]
        have hg : ({ hp := σ.hp ++ nh ++ AObj.dead :: List.replicate (cnt (newHp cx) ops.toList (i + 1 + m) - cnt (newHp cx) ops.toList (i + 1)) .dead, st := σ.st ++ ns ++ List.replicate (cnt (newSt cx) ops.toList (i + 1 + m) - cnt (newSt cx) ops.toList i) .dead } : AS).get (.hp (σ.hp.length + nh.length)) = some .dead := by
          simp only [AS.get]
          rw [List.getElem?_append_right (by simp)]
          simp
        rw [hg]
        simp only [AS.set]
        rw [List.set_append_right _ _ (by simp)]
        simp only [List.length_append, Nat.sub_self, List.set_cons_zero]
        rw [c1] at t3
        simpa using t3
      · rename_i hesc
        have hesc' : escNew cx o = false := by simpa using hesc
        have p1 : newSt cx o = true := by simp [newSt, hnn, hesc']
        have p2 : newHp cx o = false := by simp [newHp, hesc']
        rw [p1] at c1
        rw [p2] at c2
        simp only [Bool.false_eq_true, if_false, Nat.add_zero, if_true] at c1 c2
        have hslot : slot cx σ ops i o = .st (σ.st.length + ns.length) := by simp [slot, newLoc, hesc', h1]
        have := quietA_runS os (i + 1) m (putE env o.dst v) env' (ns ++ [ob]) ns' nh nh' hos' (by simpa using hl) (by omega) (by simp [h1, c1]) (by rw [h2, c2]) h
        obtain ⟨t1, t2, t3⟩ := this
        refine ⟨t1, t2, ?_⟩
        have hd : cnt (newSt cx) ops.toList (i + 1 + m) - cnt (newSt cx) ops.toList i = (cnt (newSt cx) ops.toList (i + 1 + m) - cnt (newSt cx) ops.toList (i + 1)) + 1 := by omega
        rw [hd, List.replicate_succ, hslot]
        have hg : ({ hp := σ.hp ++ nh ++ List.replicate (cnt (newHp cx) ops.toList (i + 1 + m) - cnt (newHp cx) ops.toList i) .dead, st := σ.st ++ ns ++ AObj.dead :: List.replicate (cnt (newSt cx) ops.toList (i + 1 + m) - cnt (newSt cx) ops.toList (i + 1)) .dead } : AS).get (.st (σ.st.length + ns.length)) = some .dead := by
          simp only [AS.get]
          rw [List.getElem?_append_right (by simp)]
          simp
        rw [hg]
        simp only [AS.set]
        rw [List.set_append_right _ _ (by simp)]
        simp only [List.length_append, Nat.sub_self, List.set_cons_zero]
        rw [c2] at t3
        simpa using t3
    · cases h
end
mutual
theorem AV.beq_eq : ∀ (a b : AV), AV.beq a b = true → a = b
  | .bool a, .bool b, h => by simp only [AV.beq, beq_iff_eq] at h; rw [h]
  | .int k n, .int l m, h => by simp only [AV.beq, Bool.and_eq_true, decide_eq_true_eq] at h; rw [h.1, h.2]
  | .str a, .str b, h => by
    simp only [AV.beq] at h
    rw [(MapKept.bytes_beq a b).1 h]
  | .nilp, .nilp, _ => rfl
  | .ptr L o, .ptr M p, h => by simp only [AV.beq, Bool.and_eq_true, decide_eq_true_eq] at h; rw [h.1, h.2]
  | .rptr cs o, .rptr ds p, h => by
    simp only [AV.beq, Bool.and_eq_true, decide_eq_true_eq] at h
    rw [AVs.beq_eq cs ds h.1, h.2]
  | .eptr L v i o, .eptr M u j p, h => by simp only [AV.beq, Bool.and_eq_true, decide_eq_true_eq] at h; rw [h.1.1.1, h.1.1.2, h.1.2, h.2]
  | .nils, .nils, _ => rfl
  | .sl f z es, .sl g y ds, h => by
    simp only [AV.beq, Bool.and_eq_true, decide_eq_true_eq, beq_iff_eq] at h
    rw [h.1.1, h.1.2, AVs.beq_eq es ds h.2]
  | .row L v o n, .row M u p m, h => by simp only [AV.beq, Bool.and_eq_true, decide_eq_true_eq] at h; rw [h.1.1.1, h.1.1.2, h.1.2, h.2]
  | .nilm, .nilm, _ => rfl
  | .map L, .map M, h => by simp only [AV.beq, decide_eq_true_eq] at h; rw [h]
  | .nilf, .nilf, _ => rfl
  | .nili, .nili, _ => rfl
  | .iface t v, .iface u w, h => by
    simp only [AV.beq, Bool.and_eq_true, decide_eq_true_eq] at h
    rw [h.1, AV.beq_eq v w h.2]
  | .agg cs, .agg ds, h => by simp only [AV.beq] at h; rw [AVs.beq_eq cs ds h]
  | .tup cs, .tup ds, h => by simp only [AV.beq] at h; rw [AVs.beq_eq cs ds h]
  | .fn _ _ _, b, h => by cases b <;> simp [AV.beq] at h
theorem AVs.beq_eq : ∀ (a b : List AV), AVs.beq a b = true → a = b
  | [], [], _ => rfl
  | a :: l, b :: m, h => by
    simp only [AVs.beq, Bool.and_eq_true] at h
    rw [AV.beq_eq a b h.1, AVs.beq_eq l m h.2]
  | [], _ :: _, h => by simp [AVs.beq] at h
  | _ :: _, [], h => by simp [AVs.beq] at h
end
section
variable {P : Program} {cx : Cx} {call : Caller} {σ0 : AS} {ops : List Oper} {pre : Bool} {chk : Option Env}
theorem agreeB_spec {e env : Env} {o : Oper} (h : agreeB e env o = true) : Agree o.op.operands.toList e env := by
  intro x hx
  unfold agreeB at h
  rw [List.all_eq_true] at h
  have := h x hx
  split at this
  · rename_i a b h1 h2
    rw [h1, h2, AV.beq_eq a b this]
  · rename_i h1 h2
    rw [h1, h2]
  · cases this
theorem agreeB_congr {e env env' : Env} {o : Oper} (h : Agree o.op.operands.toList env env') : agreeB e env o = agreeB e env' o := by
  unfold agreeB
  rw [Bool.eq_iff_iff, List.all_eq_true, List.all_eq_true]
  constructor
  · intro hh x hx
    rw [← h x hx]; exact hh x hx
  · intro hh x hx
    rw [h x hx]; exact hh x hx
theorem sameO_eq {a b : Option AV} (h : sameO a b = true) : a = b := by
  unfold sameO at h
  split at h
  · rename_i x y; rw [AV.beq_eq x y h]
  · rfl
  · cases h
theorem effA_congr {e e' : Env} {σ : AS} {o : Oper} (h : Agree o.op.operands.toList e e') : effA P cx call σ e o = effA P cx call σ e' o := by
  unfold effA
  cases hop : o.op <;> simp only [hop, Op.operands, Agree, Array.toList_append, List.mem_append, List.mem_cons, List.not_mem_nil, or_false] at h <;> (try dsimp only)
  case box t x => rw [h x rfl]
  case buildSlice t n ps => rw [evps_congr (fun p hp => h p.2 (by simp only [List.mem_map]; exact ⟨p, hp, rfl⟩))]
  case store t a v => rw [h a (by simp), h v (by simp)]
  case makeMap t r => cases r <;> rfl
  case makeSlice t l c => rw [h l (by simp), h c (by simp)]
  case mapUpdate t m k x => rw [h m (by simp), h k (by simp), h x (by simp)]
  case insert t m k x => rw [h m (by simp), h k (by simp), h x (by simp)]
  case convert src dst x => rw [h x rfl]
  case range t x => rw [h x rfl]
  case next x b => cases b <;> dsimp only <;> first | rfl | rw [h x rfl]
  case call c =>
    obtain ⟨callee, args, ats⟩ := c
    simp only [Call.operands] at h
    cases callee <;> (try dsimp only)
    case builtin b => rw [evs_congr (xs := args.toList) (fun x hx => h x (by simp; exact (by simpa using hx)))]
    case value f => rw [h f (by simp), evs_congr (xs := args.toList) (fun x hx => h x (by simp; exact .inr (by simpa using hx)))]
theorem isEnv_val {σ σ' : AS} {env : Env} {o : Oper} (h : isEnv o = true) : valA P σ env o = valA P σ' env o := by
  unfold valA
  unfold isEnv at h
  cases hop : o.op <;> rw [hop] at h <;> (try dsimp only at h ⊢) <;> (try (cases h; done))
  case call c =>
    obtain ⟨callee, args, ats⟩ := c
    cases callee <;> (try dsimp only at h ⊢) <;> (try (cases h; done))
    rename_i b
    cases evs env args.toList with
    | none => rfl
    | some xs =>
      dsimp only
      generalize ats.toList = ts
      cases b <;> (try (cases h; done)) <;> rcases xs with _ | ⟨x, _ | ⟨y, l⟩⟩ <;> rcases ts with _ | ⟨t, _ | ⟨u, m⟩⟩ <;> rfl
theorem rvalM_congr {e e' : Env} {σ : AS} {i : Nat} {o : Oper} (h : Agree o.op.operands.toList e e') : rvalM P σ0 ops chk i o e σ = rvalM P σ0 ops chk i o e' σ := by
  unfold rvalM
  rw [(valA_congr (P := P) (σ := σ0) h).2, (valA_congr (P := P) (σ := σ0) h).1, (valA_congr (P := P) (σ := truncM σ0 σ) h).1, (valA_congr (P := P) (σ := σ) h).1]
  cases chk with
  | none => rfl
  | some e0 =>
    have ha : agreeB e0 e o = agreeB e0 e' o := agreeB_congr h
    simp only [ha]
theorem cutCall_congr {e e' : Env} {σ : AS} {o : Oper} (h : Agree o.op.operands.toList e e') : cutCall cx call σ0 ops o e σ = cutCall cx call σ0 ops o e' σ := by
  unfold cutCall
  cases hop : o.op <;> simp only [hop, Op.operands, Agree] at h <;> (try dsimp only)
  case call c =>
    obtain ⟨callee, args, ats⟩ := c
    simp only [Call.operands] at h
    cases callee <;> (try dsimp only)
    case value f => rw [h f (by simp), evs_congr (xs := args.toList) (fun x hx => h x (by simp; exact .inr (by simpa using hx)))]
theorem mres_congr {e e' : Env} {σ : AS} {k i : Nat} {o : Oper} (h : Agree o.op.operands.toList e e') (hg : wantedA ops e o = wantedA ops e' o) : mres P cx call σ0 ops pre chk i o e σ k = mres P cx call σ0 ops pre chk i o e' σ k := by
  unfold mres
  rw [hg, newA_congr (P := P) (cx := cx) (σ := σ0) h, effA_congr h, cutCall_congr h, rvalM_congr h]
end
section
variable {P : Program} {cx : Cx} {call : Caller} {σ0 : AS} {ops : List Oper} {chk : Option Env}
theorem AS.set_len {σ : AS} {L : Loc} {ob : AObj} : (σ.set L ob).st.length = σ.st.length ∧ (σ.set L ob).hp.length = σ.hp.length := by
  cases L <;> simp [AS.set]
theorem truncM_set {σ : AS} {L : Loc} {ob : AObj} (h : match L with | .st i => σ0.st.length ≤ i | .hp i => σ0.hp.length ≤ i) : truncM σ0 (σ.set L ob) = truncM σ0 σ := by
  cases L with
  | st i => simp only [AS.set, truncM, List.take_set_of_le h]
  | hp i => simp only [AS.set, truncM, List.take_set_of_le h]
theorem cntM_succ {p : Oper → Bool} {k i : Nat} : cntM P ops p k (i + 1) = cntM P ops p k i + if atBlk P ops p k i = true then 1 else 0 := by
  unfold cntM
  rw [List.range_succ, List.filter_append, List.length_append]
  simp only [List.filter_cons, List.filter_nil]
  split <;> simp
theorem cntM_mono {p : Oper → Bool} {k i j : Nat} (h : i ≤ j) : cntM P ops p k i ≤ cntM P ops p k j := by
  unfold cntM
  have : (List.range i).Sublist (List.range j) := (List.range_sublist).2 h
  exact (this.filter _).length_le
theorem mres_eq_new {pre : Bool} {i : Nat} {o : Oper} {e : Env} {σ : AS} {k : Nat} (h3 : clsM P ops i o = 3) : mres P cx call σ0 ops pre chk i o e σ k =
    if k = blkM P ops i ∧ σ0.st.length + cntM P ops (newSt cx) k ops.length ≤ σ.st.length ∧ σ0.hp.length + cntM P ops (newHp cx) k ops.length ≤ σ.hp.length then
      if wantedA ops e o = true then
        match newA P cx σ0 e (kSt P cx ops k σ + cntM P ops (newSt cx) k i - σ0.st.length) (khM P cx σ0 ops k i σ) o with
        | some (v, ob) => match σ.get (newLoc σ0 (escNew cx o) (kSt P cx ops k σ + cntM P ops (newSt cx) k i - σ0.st.length) (khM P cx σ0 ops k i σ)) with
          | some .dead => some (v, σ.set (newLoc σ0 (escNew cx o) (kSt P cx ops k σ + cntM P ops (newSt cx) k i - σ0.st.length) (khM P cx σ0 ops k i σ)) ob, k)
          | _ => none
        | none => none
      else some (.tup [], σ, k)
    else none := by
  unfold mres
  split
  · rfl
  · rename_i hc; rw [h3] at hc; cases hc
  · rename_i hc; rw [h3] at hc; cases hc
  · rename_i h1 h2 h5; exact absurd h3 h1
theorem mres_eq_T {pre : Bool} {i : Nat} {o : Oper} {e : Env} {σ : AS} {k : Nat} (h4 : clsM P ops i o = 4) : mres P cx call σ0 ops pre chk i o e σ k =
    if k = blkM P ops i then
      match (if wantedA ops e o = true then effA P cx call σ e o else some (.tup [], σ)) with
      | some (v, σ') => if (pre || tchkM P σ0 ops chk i σ (reserveM P cx ops (k + 1) σ')) = true then some (v, reserveM P cx ops (k + 1) σ', k + 1) else none
      | none => none
    else none := by
  unfold mres
  split
  · rename_i hc; rw [h4] at hc; cases hc
  · rfl
  · rename_i hc; rw [h4] at hc; cases hc
  · rename_i h1 h2 h5; exact absurd h4 h2
theorem mres_eq_C {pre : Bool} {i : Nat} {o : Oper} {e : Env} {σ : AS} {k : Nat} (h5 : clsM P ops i o = 5) : mres P cx call σ0 ops pre chk i o e σ k =
    if k = 0 then
      match (if wantedA ops e o = true then cutCall cx call σ0 ops o e σ else some (.tup [], σ)) with
      | some (v, σ') => if (pre || tchkM P σ0 ops chk i σ σ') = true then some (v, σ', k) else none
      | none => none
    else none := by
  unfold mres
  split
  · rename_i hc; rw [h5] at hc; cases hc
  · rename_i hc; rw [h5] at hc; cases hc
  · rfl
  · rename_i h1 h2 h3; exact absurd h5 h3
theorem rvalM_eq0 {i : Nat} {o : Oper} {e : Env} {σ : AS} (h : clsM P ops i o = 0) : rvalM P σ0 ops chk i o e σ = if optsA e o = true then valA P σ0 e o else none := by
  unfold rvalM
  rw [h]
  rfl
theorem rvalM_eq1 {i : Nat} {o : Oper} {e : Env} {σ : AS} (h : clsM P ops i o = 1) : rvalM P σ0 ops chk i o e σ = if optsA e o = true then (match chk with
      | none => valA P (truncM σ0 σ) e o
      | some e' => if agreeB e' e o = true then valA P (truncM σ0 σ) e' o else none) else none := by
  unfold rvalM
  rw [h]
  rfl
theorem mres_eq_read {pre : Bool} {i : Nat} {o : Oper} {e : Env} {σ : AS} {k : Nat} (h3 : clsM P ops i o ≠ 3) (h4 : clsM P ops i o ≠ 4) (h5 : clsM P ops i o ≠ 5) : mres P cx call σ0 ops pre chk i o e σ k =
    if wantedA ops e o = true then (match rvalM P σ0 ops chk i o e σ with | some v => some (v, σ, k) | none => none) else some (.tup [], σ, k) := by
  unfold mres
  split
  · rename_i hc; exact absurd hc h3
  · rename_i hc; exact absurd hc h4
  · rename_i hc; exact absurd hc h5
  · rfl
theorem mres_read {i : Nat} {o : Oper} {e : Env} {σ σ1 : AS} {k k1 : Nat} {v : AV} (h3 : clsM P ops i o ≠ 3) (h4 : clsM P ops i o ≠ 4) (h5 : clsM P ops i o ≠ 5) (h : mres P cx call σ0 ops false chk i o e σ k = some (v, σ1, k1)) :
    σ1 = σ ∧ k1 = k ∧ ∀ σ2 k2, rvalM P σ0 ops chk i o e σ2 = rvalM P σ0 ops chk i o e σ → mres P cx call σ0 ops false chk i o e σ2 k2 = some (v, σ2, k2) := by
  rw [mres_eq_read h3 h4 h5] at h
  by_cases hw : wantedA ops e o = true
  · rw [if_pos hw] at h
    cases hv : rvalM P σ0 ops chk i o e σ with
    | none => rw [hv] at h; cases h
    | some v' =>
      rw [hv] at h
      cases h
      refine ⟨rfl, rfl, fun σ2 k2 he => ?_⟩
      rw [mres_eq_read h3 h4 h5, if_pos hw, he]
  · rw [if_neg hw] at h
    cases h
    refine ⟨rfl, rfl, fun σ2 k2 _ => ?_⟩
    rw [mres_eq_read h3 h4 h5, if_neg hw]
theorem mres_new_trunc {j : Nat} {o : Oper} {e : Env} {σ σ1 : AS} {k k1 : Nat} {v : AV} (h3 : clsM P ops j o = 3) (h : mres P cx call σ0 ops false chk j o e σ k = some (v, σ1, k1)) : truncM σ0 σ1 = truncM σ0 σ := by
  rw [mres_eq_new h3] at h
  split at h
  · rename_i hg
    split at h
    · split at h
      · split at h
        · cases h
          refine truncM_set ?_
          unfold newLoc
          cases escNew cx o <;> simp
        · cases h
      · cases h
    · cases h; rfl
  · cases h
theorem tchk_stable {i j : Nat} {oi : Oper} {e : Env} {σ σ1 : AS} (hi : ops[i]? = some oi) (hc : clsM P ops i oi = 1) (hf : loose (ancsOf ops) i j = true) (hck : tchkM P σ0 ops chk j σ σ1 = true) : rvalM P σ0 ops chk i oi e σ1 = rvalM P σ0 ops chk i oi e σ := by
  rw [rvalM_eq1 hc, rvalM_eq1 hc]
  unfold tchkM at hck
  rw [List.all_eq_true] at hck
  have := hck i (List.mem_range.2 (List.getElem?_eq_some_iff.1 hi).1)
  rw [hi] at this
  simp only [hc, hf, BEq.rfl, Bool.and_self, if_true] at this
  cases chk with
  | none => cases this
  | some e0 =>
    dsimp only at this ⊢
    rw [sameO_eq this]
theorem rval_stable {i j : Nat} {oi oj : Oper} {e e' : Env} {σ σ1 : AS} {k k1 : Nat} {v : AV} (hi : ops[i]? = some oi) (hci : clsM P ops i oi = 0 ∨ (clsM P ops i oi = 1 ∧ loose (ancsOf ops) i j = true)) (h : mres P cx call σ0 ops false chk j oj e' σ k = some (v, σ1, k1)) :
    rvalM P σ0 ops chk i oi e σ1 = rvalM P σ0 ops chk i oi e σ := by
  rcases hci with hc | ⟨hc, hf⟩
  · rw [rvalM_eq0 hc, rvalM_eq0 hc]
  · by_cases h3 : clsM P ops j oj = 3
    · rw [rvalM_eq1 hc, rvalM_eq1 hc, mres_new_trunc h3 h]
    · by_cases h4 : clsM P ops j oj = 4
      · rw [mres_eq_T h4] at h
        split at h
        · split at h
          · split at h
            · rename_i hck
              cases h
              exact tchk_stable hi hc hf (by simpa using hck)
            · cases h
          · cases h
        · cases h
      · by_cases h5 : clsM P ops j oj = 5
        · rw [mres_eq_C h5] at h
          split at h
          · split at h
            · split at h
              · rename_i hck
                cases h
                exact tchk_stable hi hc hf (by simpa using hck)
              · cases h
            · cases h
          · cases h
        · obtain ⟨rfl, _, _⟩ := mres_read h3 h4 h5 h
          rfl
def slotM (P : Program) (cx : Cx) (σ0 : AS) (ops : List Oper) (i : Nat) (o : Oper) (σ : AS) (k : Nat) : Loc :=
  newLoc σ0 (escNew cx o) (kSt P cx ops k σ + cntM P ops (newSt cx) k i - σ0.st.length) (khM P cx σ0 ops k i σ)
theorem mres_new {j : Nat} {o : Oper} {e : Env} {σ σ1 : AS} {k k1 : Nat} {v : AV} (h3 : clsM P ops j o = 3) (h : mres P cx call σ0 ops false chk j o e σ k = some (v, σ1, k1)) :
    k1 = k ∧ k = blkM P ops j ∧ σ0.st.length + cntM P ops (newSt cx) k ops.length ≤ σ.st.length ∧ σ0.hp.length + cntM P ops (newHp cx) k ops.length ≤ σ.hp.length ∧
    ((σ1 = σ ∧ wantedA ops e o = false ∧ v = .tup []) ∨ ∃ ob, wantedA ops e o = true ∧ newA P cx σ0 e (kSt P cx ops k σ + cntM P ops (newSt cx) k j - σ0.st.length) (khM P cx σ0 ops k j σ) o = some (v, ob) ∧
      σ.get (slotM P cx σ0 ops j o σ k) = some .dead ∧ σ1 = σ.set (slotM P cx σ0 ops j o σ k) ob) := by
  rw [mres_eq_new h3] at h
  split at h
  · rename_i hg
    obtain ⟨g1, g2, g3⟩ := hg
    split at h
    · rename_i hw
      split at h
      · rename_i v' ob hn
        split at h
        · rename_i hd
          cases h
          exact ⟨rfl, g1, g2, g3, .inr ⟨ob, hw, hn, hd, rfl⟩⟩
        · cases h
      · cases h
    · rename_i hw
      cases h
      exact ⟨rfl, g1, g2, g3, .inl ⟨rfl, by simpa using hw, rfl⟩⟩
  · cases h
theorem mres_new_of {j : Nat} {o : Oper} {e : Env} {σ : AS} {k : Nat} {v : AV} {ob : AObj} (h3 : clsM P ops j o = 3) (g1 : k = blkM P ops j) (g2 : σ0.st.length + cntM P ops (newSt cx) k ops.length ≤ σ.st.length) (g3 : σ0.hp.length + cntM P ops (newHp cx) k ops.length ≤ σ.hp.length)
    (hw : wantedA ops e o = true) (hn : newA P cx σ0 e (kSt P cx ops k σ + cntM P ops (newSt cx) k j - σ0.st.length) (khM P cx σ0 ops k j σ) o = some (v, ob))
    (hd : σ.get (slotM P cx σ0 ops j o σ k) = some .dead) : mres P cx call σ0 ops false chk j o e σ k = some (v, σ.set (slotM P cx σ0 ops j o σ k) ob, k) := by
  rw [mres_eq_new h3, if_pos ⟨g1, g2, g3⟩, if_pos hw, hn]
  unfold slotM at hd
  dsimp only
  rw [hd]
  rfl
theorem mres_new_off {j : Nat} {o : Oper} {e : Env} {σ : AS} {k : Nat} (h3 : clsM P ops j o = 3) (g1 : k = blkM P ops j) (g2 : σ0.st.length + cntM P ops (newSt cx) k ops.length ≤ σ.st.length) (g3 : σ0.hp.length + cntM P ops (newHp cx) k ops.length ≤ σ.hp.length)
    (hw : wantedA ops e o = false) : mres P cx call σ0 ops false chk j o e σ k = some (.tup [], σ, k) := by
  rw [mres_eq_new h3, if_pos ⟨g1, g2, g3⟩, if_neg (by rw [hw]; simp)]
theorem cls3_new {j : Nat} {o : Oper} (h : clsM P ops j o = 3) : isNew o = true := by
  unfold clsM at h
  split at h
  · split at h
    · cases h
    · split at h <;> cases h
  · split at h
    · assumption
    · split at h <;> cases h
theorem noHp_st {j : Nat} {o : Oper} (hj : ops[j]? = some o) (hn : isNew o = true) (h : noHp cx ops = true) : escNew cx o = false := by
  unfold noHp at h
  rw [List.all_eq_true] at h
  have := h o (List.mem_of_getElem? hj)
  simp only [newHp, hn, Bool.true_and, Bool.not_eq_true'] at this
  exact this
theorem slotM_ne {i j : Nat} {oi oj : Oper} {σ : AS} {k : Nat} (hi : ops[i]? = some oi) (hj : ops[j]? = some oj) (ni : isNew oi = true) (nj : isNew oj = true) (bi : k = blkM P ops i) (bj : k = blkM P ops j) (hij : i ≠ j)
    (g2 : σ0.st.length + cntM P ops (newSt cx) k ops.length ≤ σ.st.length) (g3 : σ0.hp.length + cntM P ops (newHp cx) k ops.length ≤ σ.hp.length) : slotM P cx σ0 ops i oi σ k ≠ slotM P cx σ0 ops j oj σ k := by
  have key : ∀ (i j : Nat) (oi oj : Oper), ops[i]? = some oi → ops[j]? = some oj → isNew oi = true → isNew oj = true → k = blkM P ops i → i < j → slotM P cx σ0 ops i oi σ k ≠ slotM P cx σ0 ops j oj σ k := by
    intro i j oi oj hi hj ni nj bi hlt
    have hil := (List.getElem?_eq_some_iff.1 hi).1
    have hjl := (List.getElem?_eq_some_iff.1 hj).1
    unfold slotM newLoc kSt khM kHp
    cases he : escNew cx oi <;> cases hf : escNew cx oj <;> simp only [Bool.false_eq_true, if_false, if_true, ne_eq, reduceCtorEq, not_false_eq_true, Loc.st.injEq, Loc.hp.injEq]
    · have h1 := cntM_succ (P := P) (ops := ops) (p := newSt cx) (k := k) (i := i)
      have hat : atBlk P ops (newSt cx) k i = true := by simp [atBlk, hi, newSt, ni, he, bi]
      rw [if_pos hat] at h1
      have h2 := cntM_mono (P := P) (ops := ops) (p := newSt cx) (k := k) (i := i + 1) (j := j) hlt
      omega
    · have h1 := cntM_succ (P := P) (ops := ops) (p := newHp cx) (k := k) (i := i)
      have hat : atBlk P ops (newHp cx) k i = true := by simp [atBlk, hi, newHp, ni, he, bi]
      have hno : ¬ noHp cx ops = true := fun hh => by rw [noHp_st hi ni hh] at he; cases he
      rw [if_neg hno, if_neg hno]
      rw [if_pos hat] at h1
      have h2 := cntM_mono (P := P) (ops := ops) (p := newHp cx) (k := k) (i := i + 1) (j := j) hlt
      omega
  rcases Nat.lt_or_gt_of_ne hij with h | h
  · exact key i j oi oj hi hj ni nj bi h
  · exact (key j i oj oi hj hi nj ni bj h).symm
def okPair (P : Program) (ops : List Oper) (i j : Nat) (oi oj : Oper) : Bool :=
  clsM P ops i oi == 0 || clsM P ops j oj == 0 || (decide (clsM P ops i oi ≤ 2) && decide (clsM P ops j oj ≤ 2)) || (clsM P ops i oi == 1 || clsM P ops j oj == 1) ||
  (clsM P ops i oi == 3 && clsM P ops j oj == 3) || (clsM P ops i oi == 3 && clsM P ops j oj == 5) || (clsM P ops i oi == 5 && clsM P ops j oj == 3)
theorem loose_comm {an : List (List Nat)} {i j : Nat} : loose an i j = loose an j i := by
  unfold loose
  rw [Bool.and_comm]
theorem cls_le {i : Nat} {o : Oper} : clsM P ops i o ≤ 5 := by
  unfold clsM
  repeat' split
  all_goals omega
theorem newA_kh {e : Env} {k kh kh' : Nat} {o : Oper} (hn : isNew o = true) (h : escNew cx o = false) : newA P cx σ0 e k kh o = newA P cx σ0 e k kh' o := by
  unfold newA
  cases hd : o.dst with
  | none => rfl
  | some d =>
    have hc : cx.esc.contains d = false := by
      unfold escNew at h
      rw [hn, hd] at h
      simpa using h
    simp only [hc, newLoc, Bool.false_eq_true, if_false]
theorem cutCall_spec {o : Oper} {e : Env} {σ σ' : AS} {v : AV} (h : cutCall cx call σ0 ops o e σ = some (v, σ')) : noHp cx ops = true ∧ σ0.st.length ≤ σ.st.length ∧ σ0.hp.length ≤ σ.hp.length ∧ σ.hp.length ≤ σ'.hp.length ∧ σ'.st.length = σ.st.length ∧ σ'.st.drop σ0.st.length = σ.st.drop σ0.st.length := by
  unfold cutCall at h
  split at h
  · split at h
    · split at h
      · split at h
        · rename_i hc
          split at h
          · rename_i v1 σ1 hcall
            split at h
            · rename_i h2
              cases h
              refine ⟨hc.2.1, hc.2.2.1, hc.2.2.2, h2.2.2, ?_, ?_⟩
              · simp only [List.length_append, List.length_drop]
                omega
              · simp only
                rw [List.drop_append, h2.2.1]
                simp [List.drop_eq_nil_of_le (Nat.le_of_eq h2.2.1)]
            · cases h
          · cases h
        · cases h
      · cases h
    · cases h
  · cases h
theorem cutCall_set {o : Oper} {e : Env} {σ : AS} {i : Nat} {ob : AObj} (hi : σ0.st.length ≤ i) : cutCall cx call σ0 ops o e (σ.set (.st i) ob) = (cutCall cx call σ0 ops o e σ).map fun r => (r.1, r.2.set (.st i) ob) := by
  unfold cutCall
  cases hop : o.op <;> (try rfl)
  rename_i c
  obtain ⟨callee, args, ats⟩ := c
  cases callee <;> (try rfl)
  rename_i f
  dsimp only
  cases hf : ev e f with
  | none => rfl
  | some fv =>
    cases has : evs e args.toList with
    | none => rfl
    | some as =>
      dsimp only
      cases hcal : calleeA fv as with
      | none => rfl
      | some r =>
        obtain ⟨g, gs⟩ := r
        dsimp only
        have e1 : (σ.set (.st i) ob).st.length = σ.st.length := AS.set_len.1
        have e2 : (σ.set (.st i) ob).hp = σ.hp := rfl
        have e3 : (σ.set (.st i) ob).st.take σ0.st.length = σ.st.take σ0.st.length := by
          simp only [AS.set]
          exact List.take_set_of_le hi
        have e4 : (σ.set (.st i) ob).st.drop σ0.st.length = (σ.st.drop σ0.st.length).set (i - σ0.st.length) ob := by
          simp only [AS.set]
          rw [List.drop_set, if_neg (by omega)]
        rw [e1, e2, e3, e4]
        by_cases hc : AVs.inb σ0.st.length gs = true ∧ noHp cx ops = true ∧ σ0.st.length ≤ σ.st.length ∧ σ0.hp.length ≤ σ.hp.length
        · rw [if_pos hc, if_pos hc]
          cases hcall : call g gs { hp := σ.hp, st := σ.st.take σ0.st.length } cx.ro with
          | none => rfl
          | some r2 =>
            obtain ⟨v1, σ1⟩ := r2
            dsimp only
            by_cases h2 : v1.inb σ0.st.length = true ∧ σ1.st.length = σ0.st.length ∧ σ.hp.length ≤ σ1.hp.length
            · rw [if_pos h2, if_pos h2]
              simp only [Option.map_some, AS.set]
              rw [List.set_append_right _ _ (by omega), h2.2.1]
            · rw [if_neg h2, if_neg h2]; rfl
        · rw [if_neg hc, if_neg hc]; rfl
theorem tchkM_trunc {j : Nat} {σ σ' σ1 σ1' : AS} (h : truncM σ0 σ1 = truncM σ0 σ) (h' : truncM σ0 σ1' = truncM σ0 σ') : tchkM P σ0 ops chk j σ1 σ1' = tchkM P σ0 ops chk j σ σ' := by
  unfold tchkM
  rw [h, h']
theorem mres_swapNC {i j : Nat} {oi oj : Oper} (hi : ops[i]? = some oi) (h3 : clsM P ops i oi = 3) (h5 : clsM P ops j oj = 5) {e : Env} {σ σ1 σ2 : AS} {k k1 k2 : Nat} {vi vj : AV}
    (h1 : mres P cx call σ0 ops false chk i oi e σ k = some (vi, σ1, k1)) (h2 : mres P cx call σ0 ops false chk j oj e σ1 k1 = some (vj, σ2, k2)) :
    ∃ σ1' k1', mres P cx call σ0 ops false chk j oj e σ k = some (vj, σ1', k1') ∧ mres P cx call σ0 ops false chk i oi e σ1' k1' = some (vi, σ2, k2) := by
  obtain ⟨e1, bi, g2, g3, hi'⟩ := mres_new h3 h1
  subst e1
  rw [mres_eq_C h5] at h2
  split at h2
  · rename_i hk0
    by_cases hw : wantedA ops e oj = true
    · rw [if_pos hw] at h2
      cases hc : cutCall cx call σ0 ops oj e σ1 with
      | none => rw [hc] at h2; cases h2
      | some r =>
        obtain ⟨v, σ'⟩ := r
        rw [hc] at h2
        simp only at h2
        split at h2
        · rename_i hck
          cases h2
          obtain ⟨hno, l1, l2, l3, l4, l5⟩ := cutCall_spec hc
          have hcnt : cntM P ops (newHp cx) k1 ops.length = 0 := by
            unfold cntM
            rw [List.length_eq_zero_iff, List.filter_eq_nil_iff]
            intro x _
            unfold atBlk
            cases ho : ops[x]? with
            | none => simp
            | some o =>
              have := List.all_eq_true.1 hno o (List.mem_of_getElem? ho)
              simp only [Bool.not_eq_true'] at this
              simp [this]
          rcases hi' with ⟨rfl, wi, rfl⟩ | ⟨obi, wi, ni, di, rfl⟩
          · refine ⟨σ2, k1, ?_, mres_new_off h3 bi (by omega) (by omega) wi⟩
            rw [mres_eq_C h5, if_pos hk0, if_pos hw, hc]
            simp only
            rw [if_pos hck]
          · have hst := noHp_st (cx := cx) hi (cls3_new h3) hno
            have hslot : ∃ x, σ0.st.length ≤ x ∧ slotM P cx σ0 ops i oi σ k1 = .st x := by
              unfold slotM newLoc
              rw [hst]
              exact ⟨σ0.st.length + (kSt P cx ops k1 σ + cntM P ops (newSt cx) k1 i - σ0.st.length), Nat.le_add_right _ _, by simp only [Bool.false_eq_true, if_false]⟩
            obtain ⟨x, hx, hsl⟩ := hslot
            rw [hsl] at hc hck di
            rw [cutCall_set hx] at hc
            cases hc0 : cutCall cx call σ0 ops oj e σ with
            | none => rw [hc0] at hc; cases hc
            | some r =>
              obtain ⟨v0, σ''⟩ := r
              rw [hc0] at hc
              simp only [Option.map_some, Option.some.injEq, Prod.mk.injEq] at hc
              obtain ⟨rfl, rfl⟩ := hc
              obtain ⟨_, m1, m2, m3, m4, m5⟩ := cutCall_spec hc0
              have t1 : truncM σ0 (σ.set (.st x) obi) = truncM σ0 σ := truncM_set hx
              have t2 : truncM σ0 (σ''.set (.st x) obi) = truncM σ0 σ'' := truncM_set hx
              rw [tchkM_trunc t1 t2] at hck
              refine ⟨σ'', k1, ?_, ?_⟩
              · rw [mres_eq_C h5, if_pos hk0, if_pos hw, hc0]
                simp only
                rw [if_pos hck]
              · have hkS : kSt P cx ops k1 σ'' = kSt P cx ops k1 σ := by unfold kSt; rw [m4]
                have hkH : khM P cx σ0 ops k1 i σ'' = khM P cx σ0 ops k1 i σ := by unfold khM; rw [if_pos hno, if_pos hno]
                have hsl2 : slotM P cx σ0 ops i oi σ'' k1 = .st x := by
                  rw [← hsl]
                  unfold slotM
                  rw [hkS, hkH]
                have hd2 : σ''.get (.st x) = some .dead := by
                  simp only [AS.get] at di ⊢
                  have a1 : σ''.st[x]? = (σ''.st.drop σ0.st.length)[x - σ0.st.length]? := by rw [List.getElem?_drop]; congr 1; omega
                  have a2 : σ.st[x]? = (σ.st.drop σ0.st.length)[x - σ0.st.length]? := by rw [List.getElem?_drop]; congr 1; omega
                  rw [a1, m5, ← a2]
                  exact di
                have := mres_new_of (cx := cx) (σ0 := σ0) (call := call) (chk := chk) (σ := σ'') (v := vi) (ob := obi) h3 bi (by omega) (by omega) wi (by rw [hkS, hkH]; exact ni) (by rw [hsl2]; exact hd2)
                rw [hsl2] at this
                exact this
        · cases h2
    · rw [if_neg hw] at h2
      simp only at h2
      split at h2
      · rename_i hck
        cases h2
        refine ⟨σ, k1, ?_, h1⟩
        rw [mres_eq_C h5, if_pos hk0, if_neg hw]
        simp only
        rw [if_pos]
        have ht := mres_new_trunc h3 h1
        rw [tchkM_trunc ht ht] at hck
        exact hck
      · cases h2
  · cases h2
theorem mres_swapCN {i j : Nat} {oi oj : Oper} (hj : ops[j]? = some oj) (h5 : clsM P ops i oi = 5) (h3 : clsM P ops j oj = 3) {e : Env} {σ σ1 σ2 : AS} {k k1 k2 : Nat} {vi vj : AV}
    (h1 : mres P cx call σ0 ops false chk i oi e σ k = some (vi, σ1, k1)) (h2 : mres P cx call σ0 ops false chk j oj e σ1 k1 = some (vj, σ2, k2)) :
    ∃ σ1' k1', mres P cx call σ0 ops false chk j oj e σ k = some (vj, σ1', k1') ∧ mres P cx call σ0 ops false chk i oi e σ1' k1' = some (vi, σ2, k2) := by
  rw [mres_eq_C h5] at h1
  split at h1
  · rename_i hk0
    by_cases hw : wantedA ops e oi = true
    · rw [if_pos hw] at h1
      cases hc : cutCall cx call σ0 ops oi e σ with
      | none => rw [hc] at h1; cases h1
      | some r =>
        obtain ⟨v, σ'⟩ := r
        rw [hc] at h1
        simp only at h1
        split at h1
        · rename_i hck
          cases h1
          obtain ⟨hno, l1, l2, l3, l4, l5⟩ := cutCall_spec hc
          obtain ⟨e1, bj, g2, g3, hj'⟩ := mres_new h3 h2
          subst e1
          have hcnt : cntM P ops (newHp cx) k2 ops.length = 0 := by
            unfold cntM
            rw [List.length_eq_zero_iff, List.filter_eq_nil_iff]
            intro x _
            unfold atBlk
            cases ho : ops[x]? with
            | none => simp
            | some o =>
              have := List.all_eq_true.1 hno o (List.mem_of_getElem? ho)
              simp only [Bool.not_eq_true'] at this
              simp [this]
          rcases hj' with ⟨rfl, wj, rfl⟩ | ⟨obj, wj, nj, dj, rfl⟩
          · refine ⟨σ, k2, mres_new_off h3 bj (by omega) (by omega) wj, ?_⟩
            rw [mres_eq_C h5, if_pos hk0, if_pos hw, hc]
            simp only
            rw [if_pos hck]
          · have hst := noHp_st (cx := cx) hj (cls3_new h3) hno
            have hkS : kSt P cx ops k2 σ1 = kSt P cx ops k2 σ := by unfold kSt; rw [l4]
            have hkH : khM P cx σ0 ops k2 j σ1 = khM P cx σ0 ops k2 j σ := by unfold khM; rw [if_pos hno, if_pos hno]
            have hsl2 : slotM P cx σ0 ops j oj σ1 k2 = slotM P cx σ0 ops j oj σ k2 := by
              unfold slotM
              rw [hkS, hkH]
            have hslot : ∃ x, σ0.st.length ≤ x ∧ slotM P cx σ0 ops j oj σ k2 = .st x := by
              unfold slotM newLoc
              rw [hst]
              exact ⟨σ0.st.length + (kSt P cx ops k2 σ + cntM P ops (newSt cx) k2 j - σ0.st.length), Nat.le_add_right _ _, by simp only [Bool.false_eq_true, if_false]⟩
            obtain ⟨x, hx, hsl⟩ := hslot
            rw [hsl2, hsl] at dj
            rw [hkS, hkH] at nj
            have hd2 : σ.get (.st x) = some .dead := by
              simp only [AS.get] at dj ⊢
              have a1 : σ1.st[x]? = (σ1.st.drop σ0.st.length)[x - σ0.st.length]? := by rw [List.getElem?_drop]; congr 1; omega
              have a2 : σ.st[x]? = (σ.st.drop σ0.st.length)[x - σ0.st.length]? := by rw [List.getElem?_drop]; congr 1; omega
              rw [a2, ← l5, ← a1]
              exact dj
            refine ⟨_, k2, mres_new_of (σ0 := σ0) (call := call) (chk := chk) (σ := σ) (v := vj) (ob := obj) h3 bj (by omega) (by omega) wj nj (by rw [hsl]; exact hd2), ?_⟩
            rw [hsl, hsl2, hsl, mres_eq_C h5, if_pos hk0, if_pos hw, cutCall_set hx, hc]
            simp only [Option.map_some]
            have t1 : truncM σ0 (σ.set (.st x) obj) = truncM σ0 σ := truncM_set hx
            have t2 : truncM σ0 (σ1.set (.st x) obj) = truncM σ0 σ1 := truncM_set hx
            rw [tchkM_trunc t1 t2, if_pos hck]
        · cases h1
    · rw [if_neg hw] at h1
      simp only at h1
      split at h1
      · rename_i hck
        cases h1
        refine ⟨σ2, k2, h2, ?_⟩
        obtain ⟨e1, _⟩ := mres_new h3 h2
        subst e1
        rw [mres_eq_C h5, if_pos hk0, if_neg hw]
        simp only
        rw [if_pos]
        have ht := mres_new_trunc h3 h2
        rw [tchkM_trunc ht ht]
        exact hck
      · cases h1
  · cases h1
theorem mres_swap {i j : Nat} {oi oj : Oper} (hi : ops[i]? = some oi) (hj : ops[j]? = some oj) (hij : i ≠ j) (hl : loose (ancsOf ops) i j = true) (hok : okPair P ops i j oi oj = true) {e : Env} {σ σ1 σ2 : AS} {k k1 k2 : Nat} {vi vj : AV}
    (h1 : mres P cx call σ0 ops false chk i oi e σ k = some (vi, σ1, k1)) (h2 : mres P cx call σ0 ops false chk j oj e σ1 k1 = some (vj, σ2, k2)) :
    ∃ σ1' k1', mres P cx call σ0 ops false chk j oj e σ k = some (vj, σ1', k1') ∧ mres P cx call σ0 ops false chk i oi e σ1' k1' = some (vi, σ2, k2) := by
  have readI : clsM P ops i oi ≠ 3 → clsM P ops i oi ≠ 4 → clsM P ops i oi ≠ 5 → (clsM P ops i oi = 0 ∨ (clsM P ops i oi = 1 ∧ loose (ancsOf ops) i j = true) ∨ clsM P ops j oj ≤ 2) → ∃ σ1' k1', mres P cx call σ0 ops false chk j oj e σ k = some (vj, σ1', k1') ∧ mres P cx call σ0 ops false chk i oi e σ1' k1' = some (vi, σ2, k2) := by
    intro n3 n4 n5 hc
    obtain ⟨rfl, rfl, hre⟩ := mres_read n3 n4 n5 h1
    refine ⟨σ2, k2, h2, hre σ2 k2 ?_⟩
    rcases hc with hc | hc | hc
    · exact rval_stable hi (.inl hc) h2
    · exact rval_stable hi (.inr hc) h2
    · obtain ⟨rfl, _, _⟩ := mres_read (by omega) (by omega) (by omega) h2
      rfl
  have readJ : clsM P ops j oj ≠ 3 → clsM P ops j oj ≠ 4 → clsM P ops j oj ≠ 5 → (clsM P ops j oj = 0 ∨ (clsM P ops j oj = 1 ∧ loose (ancsOf ops) j i = true)) → ∃ σ1' k1', mres P cx call σ0 ops false chk j oj e σ k = some (vj, σ1', k1') ∧ mres P cx call σ0 ops false chk i oi e σ1' k1' = some (vi, σ2, k2) := by
    intro n3 n4 n5 hc
    have hst := rval_stable (e := e) hj hc h1
    obtain ⟨rfl, rfl, hre⟩ := mres_read n3 n4 n5 h2
    exact ⟨σ, k, hre σ k hst.symm, h1⟩
  simp only [okPair, Bool.or_eq_true, Bool.and_eq_true, beq_iff_eq, decide_eq_true_eq] at hok
  rcases hok with (((((h | h) | ⟨h, h'⟩) | (h | h)) | ⟨h, h'⟩) | ⟨h, h'⟩) | ⟨h, h'⟩
  · exact readI (by omega) (by omega) (by omega) (.inl h)
  · exact readJ (by omega) (by omega) (by omega) (.inl h)
  · exact readI (by omega) (by omega) (by omega) (.inr (.inr h'))
  · exact readI (by omega) (by omega) (by omega) (.inr (.inl ⟨h, hl⟩))
  · exact readJ (by omega) (by omega) (by omega) (.inr ⟨h, loose_comm ▸ hl⟩)
  · obtain ⟨e1, bi, g2, g3, hi'⟩ := mres_new h h1
    subst e1
    obtain ⟨e2, bj, g4, g5, hj'⟩ := mres_new h' h2
    subst e2
    rcases hi' with ⟨rfl, wi, rfl⟩ | ⟨obi, wi, ni, di, rfl⟩
    · exact ⟨σ2, k2, h2, by
        rcases hj' with ⟨rfl, wj, rfl⟩ | ⟨obj, wj, nj, dj, rfl⟩
        · exact mres_new_off h bi g2 g3 wi
        · exact mres_new_off h bi (by rw [AS.set_len.1]; exact g2) (by rw [AS.set_len.2]; exact g3) wi⟩
    · have hkS : ∀ L ob, kSt P cx ops k2 (σ.set L ob) = kSt P cx ops k2 σ := fun L ob => by unfold kSt; rw [AS.set_len.1]
      have hkH : ∀ L ob x, khM P cx σ0 ops k2 x (σ.set L ob) = khM P cx σ0 ops k2 x σ := fun L ob x => by unfold khM kHp; rw [AS.set_len.2]
      have hsl : ∀ L ob i o, slotM P cx σ0 ops i o (σ.set L ob) k2 = slotM P cx σ0 ops i o σ k2 := fun L ob i o => by unfold slotM; rw [hkS, hkH]
      rcases hj' with ⟨rfl, wj, rfl⟩ | ⟨obj, wj, nj, dj, rfl⟩
      · exact ⟨σ, k2, mres_new_off h' bj g2 g3 wj, h1⟩
      · have hne := slotM_ne (σ0 := σ0) (σ := σ) hi hj (cls3_new h) (cls3_new h') bi bj hij g2 g3
        rw [hsl] at dj
        rw [AS.get_set, if_neg hne.symm] at dj
        rw [hkS, hkH] at nj
        refine ⟨σ.set (slotM P cx σ0 ops j oj σ k2) obj, k2, mres_new_of h' bj g2 g3 wj nj dj, ?_⟩
        rw [hsl, AS.set_comm hne]
        have := mres_new_of (σ0 := σ0) (call := call) (chk := chk) (σ := σ.set (slotM P cx σ0 ops j oj σ k2) obj) (v := vi) (ob := obi) h bi (by rw [AS.set_len.1]; exact g2) (by rw [AS.set_len.2]; exact g3) wi (by rw [hkS, hkH]; exact ni) (by rw [hsl, AS.get_set, if_neg hne]; exact di)
        rw [hsl] at this
        exact this
  · exact mres_swapNC hi h h' h1 h2
  · exact mres_swapCN hj h h' h1 h2
end
section
variable {P : Program} {cx : Cx} {call : Caller} {σ0 : AS} {chk : Option Env}
theorem ms_comm {ops : Array Oper} (i j : Nat) (oi oj : Oper) (hi : ops[i]? = some oi) (hj : ops[j]? = some oj) (hij : i ≠ j) (hap : oi.apart ops oj = true) (hl : loose (ancsOf ops.toList) i j = true) (hok : okPair P ops.toList i j oi oj = true) (s s1 s2 : Env × AS × Nat)
    (h1 : ms P cx call σ0 ops.toList false chk i s = some s1) (h2 : ms P cx call σ0 ops.toList false chk j s1 = some s2) : ∃ s1', ms P cx call σ0 ops.toList false chk j s = some s1' ∧ ms P cx call σ0 ops.toList false chk i s1' = some s2 := by
  obtain ⟨a1, a2, a3⟩ := Oper.apart_spec hap
  have hi' : ops.toList[i]? = some oi := by simpa using hi
  have hj' : ops.toList[j]? = some oj := by simpa using hj
  obtain ⟨env, σ, k⟩ := s
  unfold ms at h1 h2 ⊢
  rw [hi'] at h1
  rw [hj'] at h2
  simp only [hi', hj'] at h1 h2 ⊢
  cases hm : mres P cx call σ0 ops.toList false chk i oi env σ k with
  | none => rw [hm] at h1; cases h1
  | some r1 =>
    obtain ⟨vi, σ1, k1⟩ := r1
    rw [hm] at h1
    cases h1
    simp only at h2
    rw [mres_congr (agree_put (ops := ops) a1) (wanted_put' a1)] at h2
    cases hm2 : mres P cx call σ0 ops.toList false chk j oj env σ1 k1 with
    | none => rw [hm2] at h2; cases h2
    | some r2 =>
      obtain ⟨vj, σ2, k2⟩ := r2
      rw [hm2] at h2
      cases h2
      obtain ⟨σ1', k1', e1, e2⟩ := mres_swap hi' hj' hij hl hok hm hm2
      rw [e1]
      refine ⟨_, rfl, ?_⟩
      simp only
      rw [mres_congr (agree_put (ops := ops) a3) (wanted_put' a3), e2]
      simp only
      rw [putE_comm a2]
end
def mixOk (P : Program) (ops : Array Oper) : Bool :=
  waitsBack ops.toList && (List.range ops.size).all fun i => match ops[i]? with
    | none => true
    | some oi => (List.range ops.size).all fun j => match ops[j]? with
      | none => true
      | some oj => i == j || !loose (ancsOf ops.toList) i j || (oi.apart ops oj && okPair P ops.toList i j oi oj)
theorem mixOk_spec {P : Program} {ops : Array Oper} (h : mixOk P ops = true) : waitsBack ops.toList = true ∧
    ∀ (i j : Nat) (oi oj : Oper), ops[i]? = some oi → ops[j]? = some oj → i ≠ j → loose (ancsOf ops.toList) i j = true → oi.apart ops oj = true ∧ okPair P ops.toList i j oi oj = true := by
  unfold mixOk at h
  rw [Bool.and_eq_true, List.all_eq_true] at h
  refine ⟨h.1, fun i j oi oj hi hj hij hl => ?_⟩
  have h1 := h.2 i (List.mem_range.2 (Array.getElem?_eq_some_iff.1 hi).1)
  rw [hi] at h1
  simp only [List.all_eq_true] at h1
  have h2 := h1 j (List.mem_range.2 (Array.getElem?_eq_some_iff.1 hj).1)
  rw [hj] at h2
  simpa [hij, hl] using h2
end Go.Abs
end
