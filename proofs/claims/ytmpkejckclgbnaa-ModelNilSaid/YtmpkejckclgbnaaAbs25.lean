/- Lists of operations that may come in whatever order: one lexical run serves every order. -/
import Derived.Test.YtmpkejckclgbnaaAbs24
set_option linter.unusedVariables false
set_option linter.unusedSimpArgs false
namespace Go.Abs

section any
variable {P : Program} {md : Region.Mode} {ops : Array Oper} {S : Type} (step : Nat → S → Option S) (n : Nat)

def anyA (md : Region.Mode) (ops : Array Oper) (fin : Array Bool → S → Prop) : Nat → Array Bool → S → Prop
  | 0, listed, s => fin listed s
  | f + 1, listed, s => Region.ready md ops listed ≠ [] ∧ ∀ i ∈ Region.ready md ops listed, i < n ∧ ∃ s', step i s = some s' ∧ anyA md ops fin f (listed.setIfInBounds i true) s'

theorem anyA_first {fin : Array Bool → S → Prop} {i : Nat} {oi : Oper} (hi : ops[i]? = some oi) (hin : i < n)
    (hcomm : ∀ (i j : Nat) (oi oj : Oper), i < n → j < n → ops[i]? = some oi → ops[j]? = some oj → i ≠ j → oi.apart ops oj = true → ∀ s s1 s2, step i s = some s1 → step j s1 = some s2 → ∃ s1', step j s = some s1' ∧ step i s1' = some s2)
    (hwait : ∀ listed, HeadInv md ops n listed → ∀ i, i < n → listed.getD i true = false → ∀ t, n ≤ t → t ∉ Region.ready md ops listed)
    (hdone : ∀ listed s, fin listed s → ∀ j ∈ Region.ready md ops listed, n ≤ j) :
    ∀ (f : Nat) (listed : Array Bool) (s s1 : S), HeadInv md ops n listed →
      (∀ j oj, ops[j]? = some oj → j ≠ i → listed.getD j true = false → (∀ e ∈ oj.after, Region.binds md e = true → e.on ≠ i) → oi.apart ops oj = true) →
      i ∈ Region.ready md ops listed → step i s = some s1 → anyA step n md ops fin f (listed.setIfInBounds i true) s1 → anyA step n md ops fin (f + 1) listed s := by
  intro f
  induction f with
  | zero =>
    intro listed s s1 inv _ hr hs H
    have hun := (mem_ready.1 hr).1
    refine ⟨fun h => (by rw [h] at hr; cases hr), fun j hj => ?_⟩
    have hjn : j < n := by
      rcases Nat.lt_or_ge j n with h | h
      · exact h
      · exact absurd hj (hwait listed inv i hin hun j h)
    refine ⟨hjn, ?_⟩
    by_cases hji : j = i
    · subst hji; exact ⟨s1, hs, H⟩
    · have := hdone _ _ H j (ready_mono hj hji)
      omega
  | succ f ih =>
    intro listed s s1 inv hfree hr hs H
    have hun := (mem_ready.1 hr).1
    refine ⟨fun h => (by rw [h] at hr; cases hr), fun j hj => ?_⟩
    have hjn : j < n := by
      rcases Nat.lt_or_ge j n with h | h
      · exact h
      · exact absurd hj (hwait listed inv i hin hun j h)
    refine ⟨hjn, ?_⟩
    by_cases hji : j = i
    · subst hji; exact ⟨s1, hs, H⟩
    · obtain ⟨_, s2, h1, h2⟩ := H.2 j (ready_mono hj hji)
      obtain ⟨hjun, oj, hoj, hall⟩ := mem_ready.1 hj
      have hnot : ∀ e ∈ oj.after, Region.binds md e = true → e.on ≠ i := fun e he hb heq => by
        have h1 := hall e he hb
        rw [heq, getD_both hun] at h1
        cases h1
      obtain ⟨s1', g1, g2⟩ := hcomm i j oi oj hin hjn hi hoj (Ne.symm hji) (hfree j oj hoj hji hjun hnot) s s1 s2 hs h1
      refine ⟨s1', g1, ?_⟩
      have hfree' : ∀ k ok, ops[k]? = some ok → k ≠ i → (listed.setIfInBounds j true).getD k true = false →
          (∀ e ∈ ok.after, Region.binds md e = true → e.on ≠ i) → oi.apart ops ok = true := fun k ok hk hki hun hno => by
        refine hfree k ok hk hki ?_ hno
        by_cases hjk : j = k
        · subst hjk; exact hjun
        · rw [getD_set_ne true hjk] at hun; exact hun
      refine ih (listed.setIfInBounds j true) s1' s2 (inv.set hj hjn) hfree' (ready_mono hr (Ne.symm hji)) g2 ?_
      rw [Array.setIfInBounds_comm _ _ hji]
      exact h2

/-- The lexical run. -/
def runS : Nat → Nat → S → Option S
  | 0, _, s => some s
  | m + 1, k, s => match step k s with
    | some s' => runS m (k + 1) s'
    | none => none

theorem anyA_lex {g : Nat} (hcomm : ∀ (i j : Nat) (oi oj : Oper), i < n → j < n → ops[i]? = some oi → ops[j]? = some oj → i ≠ j → oi.apart ops oj = true → ∀ s s1 s2, step i s = some s1 → step j s1 = some s2 → ∃ s1', step j s = some s1' ∧ step i s1' = some s2)
    (hwait : ∀ listed, HeadInv md ops n listed → ∀ i, i < n → listed.getD i true = false → ∀ t, n ≤ t → t ∉ Region.ready md ops listed) (hn : n ≤ ops.size) :
    ∀ (m k : Nat) (listed : Array Bool) (s sf : S), k + m = n → HeadInv md ops n listed → Region.lexHead md ops g m k listed = true → runS step m k s = some sf →
    anyA step n md ops (fun listed' s' => Region.seqB md ops g n listed' = true ∧ s' = sf) m listed s
  | 0, k, listed, s, sf, hk, _, hB, h => by
    have : k = n := by simpa using hk
    subst this
    simp only [runS, Option.some.injEq] at h
    exact ⟨by simpa [Region.lexHead] using hB, h⟩
  | m + 1, k, listed, s, sf, hk, inv, hB, h => by
    have hkn : k < n := by omega
    have h0 : ops[k]? = some ops[k] := Array.getElem?_eq_getElem (by omega)
    simp only [Region.lexHead, Bool.and_eq_true] at hB
    obtain ⟨⟨hr, hf⟩, hB'⟩ := hB
    have hr' : k ∈ Region.ready md ops listed := by simpa using hr
    simp only [runS] at h
    split at h
    · rename_i s1 hs
      exact anyA_first step n h0 hkn hcomm hwait (fun listed' s' hL => seqB_ready hL.1) m listed s s1 inv (Region.free_spec h0 hf) hr' hs
        (anyA_lex hcomm hwait hn m (k + 1) _ _ _ (by omega) (inv.set hr' hkn) hB' h)
    · cases h

theorem anyA_sound {Q : Exit → Act → World → Prop} {R : S → Act → World → Prop} {fin : Array Bool → S → Prop} {g : Nat}
    (hstep : ∀ i s s' a w, i < n → step i s = some s' → R s a w → ∀ K : Act → World → Prop, (∀ a' w', R s' a' w' → K a' w') → wpOp P ops Q i K a w)
    (hL : ∀ listed s a w, fin listed s → R s a w → wpAny P md ops Q g listed a w) :
    ∀ (f : Nat) (listed : Array Bool) (s : S) (a : Act) (w : World), anyA step n md ops fin f listed s → R s a w → wpAny P md ops Q (f + g) listed a w
  | 0, listed, s, a, w, h, hR => by rw [Nat.zero_add]; exact hL _ _ _ _ h hR
  | f + 1, listed, s, a, w, h, hR => by
    rw [show f + 1 + g = (f + g) + 1 by omega]
    refine ⟨fun h0 => absurd h0 h.1, fun i hi => ?_⟩
    obtain ⟨hin, s', hs, h'⟩ := h.2 i hi
    exact hstep i s s' a w hin hs hR _ fun a' w' hR' => anyA_sound hstep hL f _ s' a' w' h' hR'

/-- Is a region such that one lexical run of its first n operations, and then the others one behind the other, serve every order? -/
def drawOk (ops : Array Oper) (n : Nat) : Bool :=
  Region.noSelect ops && (decide (n = ops.size) || (decide (n < ops.size) && Region.sinkB .any ops n && Region.chainB .any ops n)) && Region.lexHead .any ops (ops.size - n) n 0 (Array.replicate ops.size false)

theorem wp_region_lex {Q : Exit → Act → World → Prop} {R : S → Act → World → Prop} {id : Nat} {a : Act} {w : World} (hm : P.follows .mixedOrders = true) (hd : drawOk ops n = true) {s sf : S}
    (hcomm : ∀ (i j : Nat) (oi oj : Oper), i < n → j < n → ops[i]? = some oi → ops[j]? = some oj → i ≠ j → oi.apart ops oj = true → ∀ s s1 s2, step i s = some s1 → step j s1 = some s2 → ∃ s1', step j s = some s1' ∧ step i s1' = some s2)
    (hstep : ∀ i s s' a w, i < n → step i s = some s' → R s a w → ∀ K : Act → World → Prop, (∀ a' w', R s' a' w' → K a' w') → wpOp P ops Q i K a w)
    (hrun : runS step n 0 s = some sf) (hR : R s a { w with drawn := w.drawn + 1 }) (htail : ∀ a' w', R sf a' w' → wpList P ops Q (ops.toList.drop n) a' w') : (Code.region id ops true).wp P Q a w := by
  simp only [drawOk, Bool.and_eq_true, Bool.or_eq_true, decide_eq_true_eq] at hd
  obtain ⟨⟨hsel, hcase⟩, hlex⟩ := hd
  have hn : n ≤ ops.size := by rcases hcase with h | h <;> omega
  have hwait : ∀ listed, HeadInv .any ops n listed → ∀ i, i < n → listed.getD i true = false → ∀ t, n ≤ t → t ∉ Region.ready .any ops listed := by
    intro listed inv i hi hun t ht
    rcases hcase with h | ⟨⟨h, hs⟩, hc⟩
    · intro hr
      obtain ⟨_, ot, hot, _⟩ := mem_ready.1 hr
      have := (Array.getElem?_eq_some_iff.1 hot).1
      omega
    · exact tail_waits hs hc h inv _ i rfl hi hun t ht
  have inv0 : HeadInv .any ops n (Array.replicate ops.size false) :=
    ⟨by simp, fun j oj _ hl => (by rw [getD_replicate_false] at hl; cases hl), fun t _ ht => getD_in (by simpa using ht) (getD_replicate_false _ _)⟩
  have H := anyA_lex step n (g := ops.size - n) hcomm hwait hn n 0 _ s sf (by omega) inv0 hlex hrun
  refine wp_region_any hm ?_
  have hdl : (ops.toList.drop n).length = ops.size - n := by simp
  have := anyA_sound step n (P := P) (Q := Q) (R := R) (g := ops.size - n) hstep (fun listed s' a' w' hL hR' => by
    obtain ⟨h1, rfl⟩ := hL
    have := wpAny_of_seq (md := .any) (Q' := Q) (ops.toList.drop n) n listed a' w' (fun j => by simp [List.getElem?_drop]) (by rw [hdl]; exact h1) (htail a' w' hR')
    rwa [hdl] at this) _ _ _ _ _ H hR
  rwa [show n + (ops.size - n) = ops.size by omega] at this
end any
end Go.Abs
