/- Part 4 of the abstract interpreter: its operations and what they say of a world, for any program and any world. -/
import Derived.Test.YtidfkjpcpgeilaaAbs3
set_option linter.unusedVariables false
set_option linter.unusedSimpArgs false
section
namespace Go.Abs
section
variable {P : Program} {ρ : Rho} {w : World} {σ : AS}
theorem lenA_sound (s : SRo ρ σ w) {t ty : TypeId} {x : AV} {u : Value} {n : Nat} (hx : VR ρ w x u) (h : lenA P σ t x = some n) : (Builtin.len_ #[t] ty #[u]).run P w = .ok (.int .i64 n) w := by
  unfold lenA at h
  split at h
  · rename_i st ht; cases h; cases hx; simp [Builtin.len_, run_underlying ht, goInt]
  · rename_i m ht; cases h; simp [Builtin.len_, run_underlying ht, goInt]
  · rename_i e ht; cases h; cases hx; simp [Builtin.len_, run_underlying ht, goInt]
  · rename_i e ht; cases h; cases hx; simp [Builtin.len_, run_underlying ht, goInt]
  · rename_i e ht; cases h; cases hx; simp [Builtin.len_, run_underlying ht, goInt]
  · rename_i e ht; cases h; cases hx; simp [Builtin.len_, run_underlying ht, goInt]
  · rename_i k e L ht
    split at h
    · rename_i es hg
      cases h
      obtain ⟨p, arr, clock, hp, hr, hl, hw, _, hE⟩ := map_obj s hg
      cases hx with
      | map _ p' hp' hr' =>
        have : p' = p := Option.some.inj (hp'.symm.trans hp)
        subst this
        have hgo : (getObj p'.b).run P w = .ok (.map arr clock) w := by simp [getObj, Sem.run, hw]
        have hl := hE.1
        simp only [Array.length_toList] at hl
        simp [Builtin.len_, run_underlying ht, goInt, hgo, hl]
    · cases h
  · cases h
theorem capA_sound {t ty : TypeId} {x : AV} {u : Value} {n : Nat} (hx : VR ρ w x u) (h : capA P t x = some n) : (Builtin.cap_ #[t] ty #[u]).run P w = .ok (.int .i64 n) w := by
  unfold capA at h
  split at h
  · rename_i m ht; cases h; simp [Builtin.cap_, run_underlying ht, goInt]
  · rename_i e ht; cases h; cases hx; simp [Builtin.cap_, run_underlying ht, goInt]
  · rename_i e sz es ht
    cases h
    cases hx with
    | sl _ _ _ a cap f hc hfull =>
      rw [hfull rfl]
      simp [Builtin.cap_, run_underlying ht, goInt]
  · cases h
theorem minMaxA_sound {mx : Bool} {xs : List AV} {us : List Value} {c : AV} (hx : VRs ρ w xs us) (h : minMaxA mx xs = some c) {at_ : Array TypeId} {ty : TypeId} :
    ∃ r, ((if mx then Builtin.max_ at_ ty us.toArray else Builtin.min_ at_ ty us.toArray) : Sem Value).run P w = .ok r w ∧ VR ρ w c r := by
  unfold minMaxA at h
  split at h
  · rename_i k a xs
    cases us with
    | nil => have := hx.1; simp at this
    | cons u us =>
      have h0 := (hx.2 0 (.int k a) u (by simp) (by simp)).int_inv
      subst h0
      have hx' : VRs ρ w xs us := ⟨by simpa using hx.1, fun i c v hc hv => hx.2 (i + 1) c v (by simpa using hc) (by simpa using hv)⟩
      clear hx
      have key : ∀ (xs : List AV) (us : List Value) (a : Int) (r : Int), VRs ρ w xs us → xs.foldl (mmStep mx k) (some a) = some r →
          (us.foldlM (if mx then Builtin.max2 else Builtin.min2) (.int k a) : Sem Value).run P w = .ok (.int k r) w := by
        intro xs
        induction xs with
        | nil =>
          intro us a r hv hf
          have : us = [] := by simpa using hv.1.symm
          subst this
          simp only [List.foldl_nil, Option.some.injEq] at hf
          subst hf
          simp
        | cons x xs ih =>
          intro us a r hv hf
          cases us with
          | nil => have := hv.1; simp at this
          | cons u us =>
            have hv' : VRs ρ w xs us := ⟨by simpa using hv.1, fun i c v hc hv2 => hv.2 (i + 1) c v (by simpa using hc) (by simpa using hv2)⟩
            simp only [List.foldl_cons] at hf
            have hno : ∀ l : List AV, l.foldl (mmStep mx k) none = none := by
              intro l
              induction l with
              | nil => rfl
              | cons y l ihl => simpa [mmStep] using ihl
            cases x <;> (try (simp only [mmStep] at hf; rw [hno] at hf; cases hf; done))
            rename_i k' b
            simp only [mmStep] at hf
            by_cases hk : k' = k
            · rw [if_pos hk] at hf
              subst hk
              have hu := (hv.2 0 (.int k' b) u (by simp) (by simp)).int_inv
              subst hu
              have := ih us _ r hv' hf
              simp only [List.foldlM_cons, Sem.run_bind]
              cases mx
              · simp only [Bool.false_eq_true, if_false] at this ⊢
                simp only [Builtin.min2, Sem.run_pure, Result.andThen_ok]
                exact this
              · simp only [if_true] at this ⊢
                simp only [Builtin.max2, Sem.run_pure, Result.andThen_ok]
                exact this
            · rw [if_neg hk, hno] at hf; cases hf
      cases hf : xs.foldl (mmStep mx k) (some a) with
      | none => rw [hf] at h; simp at h
      | some r =>
        rw [hf] at h
        simp only [Option.map_some, Option.some.injEq] at h
        subst h
        have := key xs us a r hx' hf
        refine ⟨.int k r, ?_, .int _ _⟩
        cases mx
        · simpa [Builtin.min_] using this
        · simpa [Builtin.max_] using this
  · cases h
theorem nilCheckA_sound {x c : AV} {u : Value} (hx : VR ρ w x u) (h : nilCheckA x = some c) {o : Oper} {e : Operand → Value} {y : Operand} (ho : o.op = .nilCheck y) (hu : e y = u) :
    (execOp e o).run P w = .ok (.value u) w ∧ VR ρ w c u := by
  unfold nilCheckA at h
  split at h
  · cases h; refine ⟨?_, hx⟩; cases hx; simp [execOp, ho, hu]
  · cases h; refine ⟨?_, hx⟩; cases hx; simp [execOp, ho, hu]
  · cases h; refine ⟨?_, hx⟩; cases hx; simp [execOp, ho, hu]
  · cases h; refine ⟨?_, hx⟩; cases hx; simp [execOp, ho, hu]
  · cases h
theorem optOV {env : Env} {a : Act} (hE : ER ρ w env a.tmps) {x : Option Operand} (h : optsOk env x = true) : OV ρ w (x.bind (ev env)) (x.map a.eval) := by
  cases x with
  | none => trivial
  | some x =>
    simp only [optsOk] at h
    obtain ⟨c, hc⟩ := Option.isSome_iff_exists.1 h
    simp only [Option.bind_some, hc, Option.map_some]
    exact ev_sound hE hc
set_option maxHeartbeats 1000000 in
theorem valA_sound (s : SRo ρ σ w) {env : Env} {a : Act} (hE : ER ρ w env a.tmps) {o : Oper} (ho : optsA env o = true) {c : AV} (h : valA P σ env o = some c) :
    ∃ u, (execOp a.eval o).run P w = .ok (.value u) w ∧ VR ρ w c u := by
  unfold valA at h
  split at h
  · rename_i x hop
    exact ⟨_, by simp [execOp, hop], ev_sound hE h⟩
  · rename_i x hop
    exact ⟨_, by simp [execOp, hop], ev_sound hE h⟩
  · rename_i x y z hop
    split at h
    · rename_i hc
      have := (ev_sound hE hc).bool_inv
      exact ⟨_, by simp [execOp, hop, this, asBool], ev_sound hE h⟩
    · rename_i hc
      have := (ev_sound hE hc).bool_inv
      exact ⟨_, by simp [execOp, hop, this, asBool], ev_sound hE h⟩
    · cases h
  · rename_i t parts hop
    split at h
    · rename_i ps hps
      obtain ⟨e1, e2⟩ := evps_sound hE hps
      obtain ⟨u, h1, h2⟩ := buildA_sound (P := P) (us := parts.toList.map fun p => (p.1, a.eval p.2)) (by rw [List.map_map]; exact e1) (by rw [List.map_map]; exact e2) h
      refine ⟨u, ?_, h2⟩
      have e3 : (parts.map fun (i, x) => (i, a.eval x)) = (parts.toList.map fun p => (p.1, a.eval p.2)).toArray := by
        apply Array.ext'; simp
      simp only [execOp, hop, e3]
      simp [h1]
    · cases h
  · rename_i t x hop
    split at h
    · rename_i b hb
      obtain ⟨u, h1, h2⟩ := loadA_sound (P := P) s (ev_sound hE hb) h
      exact ⟨u, by simp [execOp, hop, h1], h2⟩
    · cases h
  · rename_i x hop
    split at h
    · rename_i b hb
      have := nilCheckA_sound (P := P) (ev_sound hE hb) h hop rfl
      exact ⟨_, this.1, this.2⟩
    · cases h
  · rename_i op t x y t' hop
    split at h
    · rename_i b c' hb hc
      obtain ⟨u, h1, h2⟩ := binA_sound (P := P) (ev_sound hE hb) (ev_sound hE hc) h
      refine ⟨u, ?_, h2⟩
      simp only [execOp, hop]
      rw [Sem.run_bind, h1]
      rfl
    · cases h
  · rename_i op t x hop
    split at h
    · rename_i b hb
      obtain ⟨u, h1, h2⟩ := unA_sound (P := P) (ev_sound hE hb) h
      exact ⟨u, by simp [execOp, hop, h1], h2⟩
    · cases h
  · rename_i src dst x hop
    split at h
    · rename_i b hb
      obtain ⟨u, h1, h2⟩ := convA_sound (P := P) s (ev_sound hE hb) h
      exact ⟨u, by simp [execOp, hop, h1], h2⟩
    · cases h
  · rename_i t x hop
    split at h
    · cases h
    · rename_i v d hni hv hd
      cases h
      refine ⟨.iface t (a.eval x), ?_, .iface _ _ _ (ev_sound hE hv)⟩
      cases d <;> first | (simp [execOp, hop, Instr.makeInterface, run_underlying hd]; done) | (exact absurd rfl (hni _))
    · cases h
  · rename_i fn first captured hop
    split at h
    · rename_i xs ys hx hy
      cases h
      obtain ⟨l1, v1⟩ := evs_sound hE hx
      obtain ⟨l2, v2⟩ := evs_sound hE hy
      refine ⟨.func fn (first.map a.eval) (captured.map a.eval), by simp [execOp, hop, Instr.makeFunc], .fn _ _ _ _ _ (by simpa using l1) (by simpa using l2) (fun i c v hc hv => v1 i c v hc ?_) (fun i c v hc hv => v2 i c v hc ?_)⟩
      · simpa using hv
      · simpa using hv
    · cases h
  · rename_i t x lo hi mx hop
    split at h
    · rename_i b hb
      simp only [optsA, hop, Bool.and_eq_true] at ho
      obtain ⟨u, h1, h2⟩ := sliceA_sound (P := P) s (ev_sound hE hb) (optOV hE ho.1.1) (optOV hE ho.1.2) (optOV hE ho.2) h
      exact ⟨u, by simp [execOp, hop, h1], h2⟩
    · cases h
  · rename_i t x i hop
    split at h
    · rename_i b hb
      obtain ⟨u, h1, h2⟩ := fieldAddrA_sound (P := P) (ev_sound hE hb) h
      exact ⟨u, by simp [execOp, hop, h1], h2⟩
    · cases h
  · rename_i t x i hop
    split at h
    · rename_i b hb
      obtain ⟨u, h1, h2⟩ := fieldValA_sound (P := P) (ev_sound hE hb) h
      exact ⟨u, by simp [execOp, hop, h1], h2⟩
    · cases h
  · rename_i t x i hop
    split at h
    · rename_i b c' hb hc
      obtain ⟨u, h1, h2⟩ := indexAddrA_sound (P := P) s (ev_sound hE hb) (ev_sound hE hc) h
      exact ⟨u, by simp [execOp, hop, h1], h2⟩
    · cases h
  · rename_i t x i hop
    split at h
    · rename_i b c' hb hc
      obtain ⟨u, h1, h2⟩ := indexA_sound (P := P) (ev_sound hE hb) (ev_sound hE hc) h
      exact ⟨u, by simp [execOp, hop, h1], h2⟩
    · cases h
  · rename_i t m k ok hop
    split at h
    · rename_i b c' hb hc
      have hlk : ∃ u, (Instr.lookup t (a.eval m) (a.eval k) ok).run P w = .ok u w ∧ VR ρ w c u := by
        split at h
        · rename_i c2 h2
          cases h
          exact lookupA_sound (P := P) s (ev_sound hE hb) (ev_sound hE hc) h2
        · exact lookupEA_sound (P := P) s (ev_sound hE hb) (ev_sound hE hc) h
      obtain ⟨u, h1, h2⟩ := hlk
      exact ⟨u, by simp [execOp, hop, h1], h2⟩
    · cases h
  · rename_i t i hop
    split at h
    · rename_i vs hb
      have hv := ev_sound hE hb
      generalize hq : a.eval t = q at hv
      cases hv with
      | tup _ us l hv =>
        have hi : i < us.size := by rw [← l]; exact (List.getElem?_eq_some_iff.1 h).1
        have h2 : us[i]? = some us[i] := Array.getElem?_eq_getElem hi
        exact ⟨us[i], by simp [execOp, hop, hq, Instr.extract, h2], hv i c _ h h2⟩
    · cases h
  · rename_i x xt t ok hop
    split at h
    · rename_i b hb
      obtain ⟨u, h1, h2⟩ := assertA_sound (P := P) (xt := xt) (ev_sound hE hb) h
      exact ⟨u, by simp [execOp, hop, h1], h2⟩
    · cases h
  · rename_i b args ats hop
    split at h
    · rename_i xs hx
      have hvs := evs_sound hE hx
      have hargs : (args.map a.eval) = (args.toList.map a.eval).toArray := by apply Array.ext'; simp
      split at h
      · rename_i x t hb2
        cases hn : lenA P σ t x with
        | none => simp [hn] at h
        | some n =>
          simp only [hn, Option.map_some, Option.some.injEq] at h
          subst h
          obtain ⟨u, hu⟩ : ∃ u, args.toList.map a.eval = [u] := by
            have := hvs.1
            simp only [List.length_cons, List.length_nil] at this
            exact List.length_eq_one_iff.1 this.symm
          rw [hu] at hvs hargs
          have h0 := hvs.2 0 x u (by simp) (by simp)
          have hl := lenA_sound (P := P) (ty := o.type) s h0 hn
          have hat : ats = #[t] := by rw [← Array.toArray_toList (xs := ats), hb2]
          subst hat
          exact ⟨_, by simp [execOp, hop, resolve, hargs, invoke, builtin, hl], .int _ _⟩
      · rename_i x t hb2
        cases hn : capA P t x with
        | none => simp [hn] at h
        | some n =>
          simp only [hn, Option.map_some, Option.some.injEq] at h
          subst h
          obtain ⟨u, hu⟩ : ∃ u, args.toList.map a.eval = [u] := by
            have := hvs.1
            simp only [List.length_cons, List.length_nil] at this
            exact List.length_eq_one_iff.1 this.symm
          rw [hu] at hvs hargs
          have h0 := hvs.2 0 x u (by simp) (by simp)
          have hl := capA_sound (P := P) (ty := o.type) h0 hn
          have hat : ats = #[t] := by rw [← Array.toArray_toList (xs := ats), hb2]
          subst hat
          exact ⟨_, by simp [execOp, hop, resolve, hargs, invoke, builtin, hl], .int _ _⟩
      · obtain ⟨u, h1, h2⟩ := minMaxA_sound (P := P) hvs h (at_ := ats) (ty := o.type)
        simp only [Bool.false_eq_true, if_false] at h1
        exact ⟨u, by simp [execOp, hop, resolve, hargs, invoke, builtin, h1], h2⟩
      · obtain ⟨u, h1, h2⟩ := minMaxA_sound (P := P) hvs h (at_ := ats) (ty := o.type)
        simp only [if_true] at h1
        exact ⟨u, by simp [execOp, hop, resolve, hargs, invoke, builtin, h1], h2⟩
      · cases h
    · cases h
  · cases h
end
end Go.Abs
end
section
namespace Go.Abs
def upd (ρ : Rho) (L : Loc) (p : Place) : Rho := ⟨fun L' => if L' = L then some p else ρ L', ρ.res⟩
theorem upd_same (ρ : Rho) (L : Loc) (p : Place) : upd ρ L p L = some p := by simp [upd]
theorem upd_ne {ρ : Rho} {L L' : Loc} {p : Place} (h : L' ≠ L) : upd ρ L p L' = ρ L' := by simp [upd, h]
theorem AS.get_set {σ : AS} {L L' : Loc} {ob : AObj} : (σ.set L ob).get L' = if L' = L then (if (σ.get L).isSome then some ob else none) else σ.get L' := by
  cases L with
  | hp i =>
    cases L' with
    | hp j =>
      simp only [AS.set, AS.get, Loc.hp.injEq, List.getElem?_set]
      by_cases h : i = j
      · subst h; simp
      · rw [if_neg h, if_neg (fun e => h e.symm)]
    | st j => simp [AS.set, AS.get]
  | st i =>
    cases L' with
    | hp j => simp [AS.set, AS.get]
    | st j =>
      simp only [AS.set, AS.get, Loc.st.injEq, List.getElem?_set]
      by_cases h : i = j
      · subst h; simp
      · rw [if_neg h, if_neg (fun e => h e.symm)]
theorem AS.get_push {σ : AS} {e : Bool} {ob : AObj} {L : Loc} : (σ.push e ob).get L = if L = σ.next e then some ob else σ.get L := by
  cases e with
  | true =>
    cases L with
    | hp j =>
      simp only [AS.push, AS.get, AS.next, if_true, Loc.hp.injEq]
      rcases Nat.lt_trichotomy j σ.hp.length with h | h | h
      · rw [List.getElem?_append_left h, if_neg (by omega)]
      · subst h; simp
      · rw [List.getElem?_eq_none (by simp; omega), if_neg (by omega), List.getElem?_eq_none (by omega)]
    | st j => simp [AS.push, AS.get, AS.next]
  | false =>
    cases L with
    | hp j => simp [AS.push, AS.get, AS.next]
    | st j =>
      simp only [AS.push, AS.get, AS.next, Bool.false_eq_true, if_false, Loc.st.injEq]
      rcases Nat.lt_trichotomy j σ.st.length with h | h | h
      · rw [List.getElem?_append_left h, if_neg (by omega)]
      · subst h; simp
      · rw [List.getElem?_eq_none (by simp; omega), if_neg (by omega), List.getElem?_eq_none (by omega)]
theorem AS.get_next {σ : AS} {e : Bool} : σ.get (σ.next e) = none := by
  cases e <;> simp [AS.get, AS.next]
theorem OR.mono {ρ : Rho} {w : World} {ρ' : Rho} {w' : World} (x : Ext ρ w ρ' w') {p : Place} {ob : AObj} (hb : p.live = true → w'.heap[p.b]? = w.heap[p.b]?) (h : OR ρ w p ob) : OR ρ' w' p ob := by
  cases ob with
  | cells cs =>
    obtain ⟨a, b, vs, E, hw, hl, hv⟩ := h
    exact ⟨a, b, vs, E, (hb a).trans hw, hl, fun i c v hc hv' => (hv i c v hc hv').mono x⟩
  | row es sz v fro =>
    obtain ⟨a1, a2, a3, a4, a5, a6, a7, a8, vs, E, fz, hw, hsz, hfz, hv⟩ := h
    refine ⟨a1, a2, a3, a4, a5, a6, a7, fun hf => ?_, vs, E, fz, ?_, hsz, hfz, fun i e j c u he hc hu => (hv i e j c u he hc hu).mono x⟩
    · obtain ⟨f1, f2⟩ := a8 hf
      exact ⟨(x.free _ f2 f1).1, Nat.lt_of_lt_of_le f2 x.size⟩
    · cases fro with
      | false => exact (hb a5).trans hw
      | true => obtain ⟨f1, f2⟩ := a8 rfl; exact (x.free _ f2 f1).2.trans hw
  | map es =>
    obtain ⟨a, b, arr, clock, hw, hl, hst, hv⟩ := h
    refine ⟨a, b, arr, clock, (hb a).trans hw, hl, hst, fun i e m he hm => ?_⟩
    obtain ⟨i1, i2, v1, v2⟩ := hv i e m he hm
    exact ⟨i1, i2, v1.mono x, v2.mono x⟩
  | iter m =>
    obtain ⟨a, b, i1, mb, since, seen, last, hw, hv⟩ := h
    exact ⟨a, b, i1, mb, since, seen, last, (hb a).trans hw, hv.mono x⟩
  | dead => exact h
theorem SR.write {ρ : Rho} {σ : AS} {w w' : World} (s : SR ρ σ w) {L : Loc} {ob' : AObj} {p p' : Place} (hL : ρ L = some p) (hlive : p.live = true)
    (hrow : p'.row = p.row) (hver : p.ver ≤ p'.ver) (hsame : p'.ver = p.ver → p'.b = p.b ∧ p'.o = p.o ∧ p'.sz = p.sz ∧ p'.cap = p.cap) (hb : p.row = false → p'.b = p.b)
    (hblk : p'.b = p.b ∨ (p'.b = w.heap.size ∧ p'.b < w'.heap.size))
    (hheap : ∀ b, b < w.heap.size → b ≠ p.b → w'.heap[b]? = w.heap[b]?) (hsize : w.heap.size ≤ w'.heap.size) (hos : w'.os = w.os) (htape : w'.tape = w.tape) (hout : w'.output = w.output)
    (hin : ∀ i cs, L = .hp i → ob' = .cells cs → AVs.inb 0 cs = true)
    (hOR : Ext ρ w (upd ρ L p') w' → OR (upd ρ L p') w' p' ob') : SR (upd ρ L p') (σ.set L ob') w' ∧ Ext ρ w (upd ρ L p') w' := by
  have hlt := s.lt L p hL hlive
  have hext : Ext ρ w (upd ρ L p') w' := by
    refine ⟨fun L' q hq => ?_, fun b hb1 hf => ⟨⟨fun L' q hq hl => ?_, hf.2⟩, hheap b hb1 (Ne.symm (hf.1 L p hL hlive))⟩, ⟨rfl, fun b hb1 hr => hheap b hb1 (fun e => s.nres L p hL hlive (e ▸ hr))⟩, hsize, hos, htape, hout⟩
    · by_cases e : L' = L
      · subst e
        have : q = p := Option.some.inj (hq.symm.trans hL)
        subst this
        exact ⟨p', upd_same _ _ _, hrow, hver, hsame, hb⟩
      · exact ⟨q, by rw [upd_ne e]; exact hq, rfl, Nat.le_refl _, fun _ => ⟨rfl, rfl, rfl, rfl⟩, fun _ => rfl⟩
    · by_cases e : L' = L
      · subst e
        rw [upd_same] at hq
        cases hq
        rcases hblk with h | ⟨h, _⟩
        · rw [h]; exact hf.1 L' p hL hlive
        · omega
      · rw [upd_ne e] at hq; exact hf.1 L' q hq hl
  have hgot : (σ.get L).isSome = true := by obtain ⟨ob, ho⟩ := s.dom L p hL; simp [ho]
  refine ⟨⟨⟨fun L' ob ho hnd => ?_⟩, fun L' q hq => ?_, fun L1 L2 p1 p2 h1 h2 l1 l2 e => ?_, fun L' q hq hl => ?_, fun i cs hc => ?_, fun L' q hq hl => ?_, fun b hb => Nat.lt_of_lt_of_le (s.resl b hb) hsize, hext.glb s⟩, hext⟩
  · rw [AS.get_set] at ho
    by_cases e : L' = L
    · subst e
      rw [if_pos rfl, hgot] at ho
      simp only [if_true, Option.some.injEq] at ho
      subst ho
      exact ⟨p', upd_same _ _ _, hOR hext⟩
    · rw [if_neg e] at ho
      obtain ⟨q, hq, hO⟩ := s.objD L' ob ho hnd
      exact ⟨q, by rw [upd_ne e]; exact hq, hO.mono hext fun hl => hheap _ (s.lt L' q hq hl) (fun hbb => e (s.inj L' L q p hq hL hl hlive hbb))⟩
  · by_cases e : L' = L
    · subst e
      refine ⟨ob', ?_⟩
      rw [AS.get_set, if_pos rfl, hgot]; simp
    · rw [upd_ne e] at hq
      obtain ⟨ob, ho⟩ := s.dom L' q hq
      exact ⟨ob, by rw [AS.get_set, if_neg e]; exact ho⟩
  · by_cases e1 : L1 = L
    · by_cases e2 : L2 = L
      · rw [e1, e2]
      · subst e1
        rw [upd_same] at h1
        cases h1
        rw [upd_ne e2] at h2
        rcases hblk with h | ⟨h, _⟩
        · exact s.inj _ _ p p2 hL h2 hlive l2 (by rw [← h]; exact e)
        · have := s.lt L2 p2 h2 l2; omega
    · rw [upd_ne e1] at h1
      by_cases e2 : L2 = L
      · subst e2
        rw [upd_same] at h2
        cases h2
        rcases hblk with h | ⟨h, _⟩
        · exact s.inj _ _ p1 p h1 hL l1 hlive (by rw [← h]; exact e)
        · have := s.lt L1 p1 h1 l1; omega
      · rw [upd_ne e2] at h2
        exact s.inj L1 L2 p1 p2 h1 h2 l1 l2 e
  · by_cases e : L' = L
    · subst e
      rw [upd_same] at hq
      cases hq
      rcases hblk with h | ⟨_, h⟩
      · rw [h]; omega
      · exact h
    · rw [upd_ne e] at hq
      exact Nat.lt_of_lt_of_le (s.lt L' q hq hl) hsize
  · rw [AS.get_set] at hc
    by_cases e : Loc.hp i = L
    · rw [if_pos e, hgot] at hc
      simp only [if_true, Option.some.injEq] at hc
      exact hin i cs e.symm hc
    · rw [if_neg e] at hc
      exact s.hin i cs hc
  · by_cases e : L' = L
    · subst e
      rw [upd_same] at hq
      cases hq
      rcases hblk with h | ⟨h, _⟩
      · rw [h]; exact s.nres L' p hL hlive
      · intro hr; have := s.resl _ hr; omega
    · rw [upd_ne e] at hq
      exact s.nres L' q hq hl
theorem SR.push {ρ : Rho} {σ : AS} {w w' : World} (s : SR ρ σ w) {e : Bool} {ob : AObj} {p : Place} (hlive : p.live = true) (hb : p.b = w.heap.size)
    (hheap : ∀ b, b < w.heap.size → w'.heap[b]? = w.heap[b]?) (hsize : w.heap.size < w'.heap.size) (hos : w'.os = w.os) (htape : w'.tape = w.tape) (hout : w'.output = w.output)
    (hin : ∀ cs, e = true → ob = .cells cs → AVs.inb 0 cs = true)
    (hOR : Ext ρ w (upd ρ (σ.next e) p) w' → OR (upd ρ (σ.next e) p) w' p ob) : SR (upd ρ (σ.next e) p) (σ.push e ob) w' ∧ Ext ρ w (upd ρ (σ.next e) p) w' := by
  have hno : ρ (σ.next e) = none := by
    cases h : ρ (σ.next e) with
    | none => rfl
    | some q => obtain ⟨ob, ho⟩ := s.dom _ _ h; rw [AS.get_next] at ho; cases ho
  have hext : Ext ρ w (upd ρ (σ.next e) p) w' := by
    refine ⟨fun L' q hq => ?_, fun b hb1 hf => ⟨⟨fun L' q hq hl => ?_, hf.2⟩, hheap b hb1⟩, ⟨rfl, fun b hb1 _ => hheap b hb1⟩, Nat.le_of_lt hsize, hos, htape, hout⟩
    · have e : L' ≠ σ.next e := by intro h; rw [h, hno] at hq; cases hq
      exact ⟨q, by rw [upd_ne e]; exact hq, rfl, Nat.le_refl _, fun _ => ⟨rfl, rfl, rfl, rfl⟩, fun _ => rfl⟩
    · by_cases e : L' = σ.next e
      · subst e
        rw [upd_same] at hq
        cases hq
        omega
      · rw [upd_ne e] at hq; exact hf.1 L' q hq hl
  refine ⟨⟨⟨fun L' ob' ho hnd => ?_⟩, fun L' q hq => ?_, fun L1 L2 p1 p2 h1 h2 l1 l2 eb => ?_, fun L' q hq hl => ?_, fun i cs hc => ?_, fun L' q hq hl => ?_, fun b hb => Nat.lt_trans (s.resl b hb) hsize, hext.glb s⟩, hext⟩
  · rw [AS.get_push] at ho
    by_cases e : L' = σ.next e
    · rw [if_pos e] at ho
      cases ho
      exact ⟨p, by rw [e, upd_same], hOR hext⟩
    · rw [if_neg e] at ho
      obtain ⟨q, hq, hO⟩ := s.objD L' ob' ho hnd
      exact ⟨q, by rw [upd_ne e]; exact hq, hO.mono hext fun hl => hheap _ (s.lt L' q hq hl)⟩
  · by_cases e : L' = σ.next e
    · exact ⟨ob, by rw [AS.get_push, if_pos e]⟩
    · rw [upd_ne e] at hq
      obtain ⟨ob', ho⟩ := s.dom L' q hq
      exact ⟨ob', by rw [AS.get_push, if_neg e]; exact ho⟩
  · by_cases e1 : L1 = σ.next e
    · by_cases e2 : L2 = σ.next e
      · rw [e1, e2]
      · rw [e1, upd_same] at h1
        cases h1
        rw [upd_ne e2] at h2
        have := s.lt L2 p2 h2 l2; omega
    · rw [upd_ne e1] at h1
      by_cases e2 : L2 = σ.next e
      · rw [e2, upd_same] at h2
        cases h2
        have := s.lt L1 p1 h1 l1; omega
      · rw [upd_ne e2] at h2
        exact s.inj L1 L2 p1 p2 h1 h2 l1 l2 eb
  · by_cases e : L' = σ.next e
    · rw [e, upd_same] at hq
      cases hq
      omega
    · rw [upd_ne e] at hq
      exact Nat.lt_of_lt_of_le (s.lt L' q hq hl) (Nat.le_of_lt hsize)
  · rw [AS.get_push] at hc
    by_cases e1 : Loc.hp i = σ.next e
    · rw [if_pos e1] at hc
      cases e with
      | true => cases hc; exact hin cs rfl rfl
      | false => simp [AS.next] at e1
    · rw [if_neg e1] at hc
      exact s.hin i cs hc
  · by_cases e : L' = σ.next e
    · rw [e, upd_same] at hq
      cases hq
      intro hr
      have := s.resl _ hr
      omega
    · rw [upd_ne e] at hq
      exact s.nres L' q hq hl
end Go.Abs
end
section
namespace Go.Abs
theorem AS.set_self {σ : AS} {L : Loc} {ob : AObj} (h : σ.get L = some ob) : σ.set L ob = σ := by
  obtain ⟨hp, st⟩ := σ
  cases L with
  | hp i =>
    simp only [AS.get] at h
    obtain ⟨hl, rfl⟩ := List.getElem?_eq_some_iff.1 h
    simp [AS.set]
  | st i =>
    simp only [AS.get] at h
    obtain ⟨hl, rfl⟩ := List.getElem?_eq_some_iff.1 h
    simp [AS.set]
theorem AS.next_of_hp {σ : AS} : σ.next true = .hp σ.hp.length := rfl
theorem AS.next_of_st {σ : AS} : σ.next false = .st σ.st.length := rfl
theorem VR.row_sl {ρ : Rho} {σ : AS} {w : World} (s : SR ρ σ w) {L : Loc} {es : List AV} {sz v off len : Nat} {u : Value} (hg : σ.get L = some (.row es sz v true)) (hle : off + len ≤ es.length)
    (h : VR ρ w (.row L v off len) u) : VR ρ w (.sl false sz ((es.drop off).take len)) u := by
  obtain ⟨p, hp, hr, hv, hsz, hpos, hlive, hcap, hok, hfr, vs, E, fz, hw, hlt, hfz, hval⟩ := s.obj L _ hg
  cases h with
  | row _ _ _ _ p' a cap h' hr' hv' hl ha =>
    have : p' = p := Option.some.inj (h'.symm.trans hp)
    subst this
    obtain ⟨c1, c2⟩ := ha hv
    have hlen : ((es.drop off).take len).length = len := by simp; omega
    have hcell : ∀ (i : Nat) (e : AV) (j : Nat) (c : AV), ((es.drop off).take len)[i]? = some e → e.cells[j]? = some c → es[off + i]? = some e ∧ p'.o + (off + i) * sz + j < vs.size := by
      intro i e j c hi hj
      rw [List.getElem?_take] at hi
      split at hi
      · rw [List.getElem?_drop] at hi
        refine ⟨hi, ?_⟩
        have h1 := rowEnd hi hj (okE_len (hok e (getElem?_mem' hi)))
        have h2 : es.length * sz ≤ p'.cap * sz := Nat.mul_le_mul_right _ hcap
        omega
      · cases hi
    have := VR.sl (ρ := ρ) (w := w) false sz ((es.drop off).take len) a cap (fun i j => vs.getD (p'.o + (off + i) * sz + j) undef) (by rw [hlen]; exact hl) (fun h => by cases h)
      (fun hne => ?_) (fun e he => hok e (List.mem_of_mem_drop (List.mem_of_mem_take he))) (fun i e j c hi hj => ?_) (fun i e j c hi hj => ?_)
    · rwa [hlen] at this
    · have hl0 : 0 < len := by rw [← hlen]; exact List.length_pos_iff.2 hne
      have := c2 (by omega)
      subst this
      exact ⟨rfl, (hfr rfl).2, (hfr rfl).1⟩
    · obtain ⟨h1, h2⟩ := hcell i e j c hi hj
      have hl0 : 0 < cap := by
        have : i < len := by rw [← hlen]; exact (List.getElem?_eq_some_iff.1 hi).1
        omega
      have := c2 hl0
      subst this
      have h3 : vs[p'.o + (off + i) * sz + j]? = some vs[p'.o + (off + i) * sz + j] := Array.getElem?_eq_getElem h2
      have e1 : p'.o + off * p'.sz + i * sz + j = p'.o + (off + i) * sz + j := by rw [hsz, Nat.add_mul]; omega
      simp only [e1, World.cell?, hw, Option.isSome_none, Bool.false_eq_true, if_false, Array.getD_eq_getD_getElem?, h3, Option.getD_some]
    · obtain ⟨h1, h2⟩ := hcell i e j c hi hj
      have h3 : vs[p'.o + (off + i) * sz + j]? = some vs[p'.o + (off + i) * sz + j] := Array.getElem?_eq_getElem h2
      simp only [Array.getD_eq_getD_getElem?, h3, Option.getD_some]
      exact hval _ _ _ _ _ h1 hj h3
theorem SR.freeze {ρ : Rho} {σ : AS} {w : World} (s : SR ρ σ w) {L : Loc} {es : List AV} {sz v : Nat} {fro : Bool} (hg : σ.get L = some (.row es sz v fro)) :
    ∃ ρ', Ext ρ w ρ' w ∧ SR ρ' (σ.set L (.row es sz v true)) w := by
  cases fro with
  | true => exact ⟨ρ, Ext.refl _ _, by rw [AS.set_self hg]; exact s⟩
  | false =>
    obtain ⟨p, hp, hr, hv, hsz, hpos, hlive, hcap, hok, hfr, vs, E, fz, hw, hlt, hfz, hval⟩ := s.obj L _ hg
    have hl : p.live = true := by simpa using hlive
    have := s.write (w' := w) (ob' := .row es sz v true) (p' := { p with live := false }) hp hl rfl (Nat.le_refl _) (fun _ => ⟨rfl, rfl, rfl, rfl⟩) (fun _ => rfl) (.inl rfl) (fun _ _ _ => rfl) (Nat.le_refl _) rfl rfl rfl
      (fun i cs _ h => by cases h) (fun x => ⟨hr, hv, hsz, hpos, by simp, hcap, hok, fun _ => ⟨⟨fun L' q hq hql => ?_, s.nres L p hp hl⟩, s.lt L p hp hl⟩, vs, E, fz, hw, hlt, hfz, fun i e j c u he hc hu => (hval i e j c u he hc hu).mono x⟩)
    · exact ⟨_, this.2, this.1⟩
    · by_cases e : L' = L
      · subst e; rw [upd_same] at hq; cases hq; cases hql
      · rw [upd_ne e] at hq
        exact fun hb => e (s.inj L' L q p hq hp hql hl hb)
theorem VRs.cons_inv {ρ : Rho} {w : World} {x : AV} {xs : List AV} {us : List Value} (h : VRs ρ w (x :: xs) us) : ∃ u us', us = u :: us' ∧ VR ρ w x u ∧ VRs ρ w xs us' := by
  cases us with
  | nil => have := h.1; simp at this
  | cons u us => exact ⟨u, us, rfl, h.2 0 x u (by simp) (by simp), by simpa using h.1, fun i c v hc hv => h.2 (i + 1) c v (by simpa using hc) (by simpa using hv)⟩
theorem VRs.cons {ρ : Rho} {w : World} {x : AV} {xs : List AV} {u : Value} {us : List Value} (h : VR ρ w x u) (hs : VRs ρ w xs us) : VRs ρ w (x :: xs) (u :: us) :=
  ⟨by simpa using hs.1, fun i c v hc hv => by
    cases i with
    | zero => simp at hc hv; subst hc; subst hv; exact h
    | succ i => simp at hc hv; exact hs.2 i c v hc hv⟩
theorem VRs.nil {ρ : Rho} {w : World} : VRs ρ w [] [] := ⟨rfl, fun i c v hc => by simp at hc⟩
theorem fzL_sound {ro : Option Nat} {w : World} : ∀ (xs : List AV) (us : List Value) (ys : List AV) (ρ : Rho) (σ σ' : AS), fzL ro σ xs = some (ys, σ') → SR ρ σ w → VRs ρ w xs us →
    ∃ ρ', Ext ρ w ρ' w ∧ SR ρ' σ' w ∧ VRs ρ' w ys us := by
  intro xs
  induction xs with
  | nil =>
    intro us ys ρ σ σ' h s hx
    simp only [fzL, Option.some.injEq, Prod.mk.injEq] at h
    obtain ⟨rfl, rfl⟩ := h
    exact ⟨ρ, Ext.refl _ _, s, hx⟩
  | cons x xs ih =>
    intro us ys ρ σ σ' h s hx
    obtain ⟨u, us', rfl, hxu, hxs⟩ := hx.cons_inv
    unfold fzL at h
    split at h
    · rename_i heq; cases heq
    · rename_i L v off len xs' heq
      cases heq
      split at h
      · rename_i es sz v' fro hg
        split at h
        · rename_i hc
          obtain ⟨rfl, _, hle⟩ := hc
          split at h
          · rename_i ys' σ'' hrec
            simp only [Option.some.injEq, Prod.mk.injEq] at h
            obtain ⟨rfl, rfl⟩ := h
            obtain ⟨ρ1, x1, s1⟩ := s.freeze hg
            have hv1 := VR.row_sl (es := es) (sz := sz) (v := v') s1 (by rw [AS.get_set, if_pos rfl, hg]; simp) hle (hxu.mono x1)
            obtain ⟨ρ2, x2, s2, v2⟩ := ih us' ys' ρ1 _ _ hrec s1 (hxs.mono x1)
            exact ⟨ρ2, x1.trans x2, s2, .cons (hv1.mono x2) v2⟩
          · cases h
        · cases h
      · cases h
    · rename_i x' xs' hne heq
      cases heq
      split at h
      · rename_i ys' σ'' hrec
        simp only [Option.some.injEq, Prod.mk.injEq] at h
        obtain ⟨rfl, rfl⟩ := h
        obtain ⟨ρ2, x2, s2, v2⟩ := ih us' ys' ρ _ _ hrec s hxs
        exact ⟨ρ2, x2, s2, .cons (hxu.mono x2) v2⟩
      · cases h
theorem SR.promote {ρ : Rho} {σ : AS} {w : World} (s : SR ρ σ w) {i : Nat} {es : List AV} {sz v : Nat} (hg : σ.st[i]? = some (.row es sz v false)) {p : Place} (hp : ρ (.st i) = some p) :
    let ρ' := upd (upd ρ (.st i) { p with live := false }) (.hp σ.hp.length) p
    Ext ρ w ρ' w ∧ SR ρ' { hp := σ.hp ++ [.row es sz v false], st := σ.st.set i .dead } w := by
  intro ρ'
  obtain ⟨p', hp', hO⟩ := s.obj (.st i) _ hg
  have : p' = p := Option.some.inj (hp'.symm.trans hp)
  subst this
  have hl : p'.live = true := by obtain ⟨_, _, _, _, h, _⟩ := hO; simpa using h
  have hnew : ρ (.hp σ.hp.length) = none := by
    cases h : ρ (.hp σ.hp.length) with
    | none => rfl
    | some q => obtain ⟨ob, ho⟩ := s.dom _ _ h; simp [AS.get] at ho
  have e1 : ∀ L, ρ' L = if L = .hp σ.hp.length then some p' else if L = .st i then some { p' with live := false } else ρ L := fun L => rfl
  have hfree : ∀ b, Free ρ b → Free ρ' b := fun b hf => ⟨fun L q hq hql => by
    rw [e1] at hq
    split at hq
    · cases hq; exact hf.1 _ _ hp hl
    · split at hq
      · cases hq; cases hql
      · exact hf.1 L q hq hql, hf.2⟩
  have hext : Ext ρ w ρ' w := by
    refine ⟨fun L q hq => ?_, fun b _ hf => ⟨hfree b hf, rfl⟩, ⟨rfl, fun _ _ _ => rfl⟩, Nat.le_refl _, rfl, rfl, rfl⟩
    rw [e1]
    split
    · rename_i h; rw [h, hnew] at hq; cases hq
    · split
      · rename_i h
        rw [h, hp] at hq
        cases hq
        exact ⟨_, rfl, rfl, Nat.le_refl _, fun _ => ⟨rfl, rfl, rfl, rfl⟩, fun _ => rfl⟩
      · exact ⟨q, hq, rfl, Nat.le_refl _, fun _ => ⟨rfl, rfl, rfl, rfl⟩, fun _ => rfl⟩
  have hget : ∀ L, ({ hp := σ.hp ++ [.row es sz v false], st := σ.st.set i .dead } : AS).get L = if L = .hp σ.hp.length then some (.row es sz v false) else if L = .st i then some .dead else σ.get L := by
    intro L
    have h1 := AS.get_push (σ := σ.set (.st i) .dead) (e := true) (ob := .row es sz v false) (L := L)
    have h2 : (σ.set (.st i) .dead).push true (.row es sz v false) = ({ hp := σ.hp ++ [.row es sz v false], st := σ.st.set i .dead } : AS) := rfl
    rw [h2] at h1
    rw [h1]
    have h3 : (σ.set (.st i) .dead).next true = .hp σ.hp.length := rfl
    rw [h3]
    split
    · rfl
    · rw [AS.get_set]
      have : (σ.get (.st i)).isSome = true := by simp [AS.get, hg]
      rw [this]
      simp
  refine ⟨hext, ⟨⟨fun L ob ho hnd => ?_⟩, fun L q hq => ?_, fun L1 L2 p1 p2 h1 h2 l1 l2 e => ?_, fun L q hq hql => ?_, fun j cs hc => ?_, fun L q hq hql => ?_, s.resl, hext.glb s⟩⟩
  · rw [hget] at ho
    rw [e1]
    split at ho
    · cases ho
      rename_i h
      exact ⟨p', by rw [if_pos h], hO.mono hext fun _ => rfl⟩
    · rename_i h
      rw [if_neg h]
      split at ho
      · cases ho
        rename_i h2
        exact ⟨{ p' with live := false }, by rw [if_pos h2], (rfl : ({ p' with live := false } : Place).live = false)⟩
      · rename_i h2
        rw [if_neg h2]
        obtain ⟨q, hq, hq2⟩ := s.objD L ob ho hnd
        exact ⟨q, hq, hq2.mono hext fun _ => rfl⟩
  · rw [e1] at hq
    rw [hget]
    split
    · exact ⟨_, rfl⟩
    · rename_i h
      rw [if_neg h] at hq
      split
      · exact ⟨_, rfl⟩
      · rename_i h2
        rw [if_neg h2] at hq
        exact s.dom L q hq
  · rw [e1] at h1 h2
    have hst : ∀ L q, L ≠ .st i → ρ L = some q → q.live = true → q.b ≠ p'.b := fun L q hne hq hql hb => hne (s.inj L (.st i) q p' hq hp hql hl hb)
    split at h1
    · rename_i g1
      cases h1
      split at h2
      · rename_i g2; rw [g1, g2]
      · split at h2
        · cases h2; cases l2
        · rename_i g2; exact absurd e.symm (hst L2 p2 g2 h2 l2)
    · split at h1
      · cases h1; cases l1
      · rename_i g1
        split at h2
        · cases h2; exact absurd e (hst L1 p1 g1 h1 l1)
        · split at h2
          · cases h2; cases l2
          · exact s.inj L1 L2 p1 p2 h1 h2 l1 l2 e
  · rw [e1] at hq
    split at hq
    · cases hq; exact s.lt _ _ hp hl
    · split at hq
      · cases hq; cases hql
      · exact s.lt L q hq hql
  · rw [hget] at hc
    split at hc
    · cases hc
    · split at hc
      · cases hc
      · exact s.hin j cs hc
  · rw [e1] at hq
    split at hq
    · cases hq; exact s.nres _ _ hp hl
    · split at hq
      · cases hq; cases hql
      · exact s.nres L q hq hql
theorem promL_sound {ro : Option Nat} {w : World} : ∀ (xs : List AV) (us : List Value) (ys : List AV) (ρ : Rho) (σ σ' : AS), promL ro σ xs = some (ys, σ') → SR ρ σ w → VRs ρ w xs us →
    ∃ ρ', Ext ρ w ρ' w ∧ SR ρ' σ' w ∧ VRs ρ' w ys us := by
  intro xs
  induction xs with
  | nil =>
    intro us ys ρ σ σ' h s hx
    simp only [promL, Option.some.injEq, Prod.mk.injEq] at h
    obtain ⟨rfl, rfl⟩ := h
    exact ⟨ρ, Ext.refl _ _, s, hx⟩
  | cons x xs ih =>
    intro us ys ρ σ σ' h s hx
    obtain ⟨u, us', rfl, hxu, hxs⟩ := hx.cons_inv
    unfold promL at h
    split at h
    · rename_i heq; cases heq
    · rename_i i v off len xs' heq
      cases heq
      split at h
      · rename_i es sz v' hg
        split at h
        · rename_i hc
          obtain ⟨rfl, _⟩ := hc
          split at h
          · rename_i ys' σ'' hrec
            simp only [Option.some.injEq, Prod.mk.injEq] at h
            obtain ⟨rfl, rfl⟩ := h
            cases hxu with
            | row _ _ _ _ p a cap h' hr' hv' hl ha =>
              obtain ⟨x1, s1⟩ := s.promote hg h'
              obtain ⟨ρ2, x2, s2, v2⟩ := ih us' ys' _ _ _ hrec s1 (hxs.mono x1)
              refine ⟨ρ2, x1.trans x2, s2, .cons (VR.mono x2 ?_) v2⟩
              exact .row _ _ _ _ p a cap (upd_same _ _ _) hr' hv' hl ha
          · cases h
        · cases h
      · cases h
    · rename_i x' xs' hne heq
      cases heq
      split at h
      · rename_i ys' σ'' hrec
        simp only [Option.some.injEq, Prod.mk.injEq] at h
        obtain ⟨rfl, rfl⟩ := h
        obtain ⟨ρ2, x2, s2, v2⟩ := ih us' ys' ρ _ _ hrec s hxs
        exact ⟨ρ2, x2, s2, .cons (hxu.mono x2) v2⟩
      · cases h
end Go.Abs
end
section
namespace Go.Abs
theorem setCells_spec (b : Nat) (E : TypeId) (fz : Nat × Nat) : ∀ (vs : List Value) (o : Nat) (w : World) (cur : Array Value), w.heap[b]? = some (.cells cur E fz) → o + vs.length ≤ cur.size →
    (w.setCells b o vs).os = w.os ∧ (w.setCells b o vs).tape = w.tape ∧ (w.setCells b o vs).output = w.output ∧ (w.setCells b o vs).heap.size = w.heap.size ∧
    (∀ k, k ≠ b → (w.setCells b o vs).heap[k]? = w.heap[k]?) ∧
    ∃ cur' : Array Value, (w.setCells b o vs).heap[b]? = some (.cells cur' E fz) ∧ cur'.size = cur.size ∧ ∀ i, i < cur.size → cur'[i]? = if o ≤ i ∧ i < o + vs.length then vs[i - o]? else cur[i]?
  | [], o, w, cur, h, _ => ⟨rfl, rfl, rfl, rfl, fun _ _ => rfl, cur, h, rfl, fun i hi => by simp; intro h1 h2; omega⟩
  | v :: vs, o, w, cur, h, hl => by
    have h1 : (w.setCell ⟨b, o, none⟩ v).heap[b]? = some (.cells (cur.setIfInBounds o v) E fz) := by
      simp [World.setCell, Array.getElem?_modify, h]
    have ih := setCells_spec b E fz vs (o + 1) (w.setCell ⟨b, o, none⟩ v) (cur.setIfInBounds o v) h1 (by simp at hl ⊢; omega)
    obtain ⟨i1, i2, i3, i4, i5, cur', c1, c2, c3⟩ := ih
    refine ⟨i1, i2, i3, i4.trans (by simp), fun k hk => (i5 k hk).trans (by simp only [World.setCell, Array.getElem?_modify]; rw [if_neg (fun e => hk e.symm)]), cur', c1, c2.trans (by simp), fun i hi => ?_⟩
    rw [c3 i (by simpa using hi)]
    by_cases g : o ≤ i ∧ i < o + (v :: vs).length
    · rw [if_pos g]
      by_cases g2 : i = o
      · subst g2
        rw [if_neg (by omega)]
        simp [hi]
      · rw [if_pos (by simp at g; omega)]
        have : i - o = (i - (o + 1)) + 1 := by omega
        rw [this]; simp
    · rw [if_neg g, if_neg (by simp at g; omega), Array.getElem?_setIfInBounds_ne (by simp at g; omega)]
theorem VR.oneCell {ρ : Rho} {w : World} {c : AV} {v : Value} (h : VR ρ w c v) (h1 : c.one = true) : v.oneCell' = true := by
  cases h <;> simp [AV.one, Value.oneCell'] at *
theorem run_storeCells {P : Program} {ρ : Rho} {w : World} {b o : Nat} {cur : Array Value} {E : TypeId} {fz : Nat × Nat} (h : w.heap[b]? = some (.cells cur E fz)) {xs : List AV} {us : List Value} (hx : VRs ρ w xs us)
    (h1 : ∀ x ∈ xs, x.one = true) (hl : o + xs.length ≤ cur.size) (hfz : fz.2 ≤ fz.1 ∨ o + xs.length ≤ fz.1) : (storeCells ⟨b, o, none⟩ us).run P w = .ok () (w.setCells b o us) := by
  have hlen := hx.1
  have := run_storeCells_cells (P := P) b o us 0 w (fun j hj => by
    have : o + j < cur.size := by omega
    simp [World.cell?, h, this]) (fun j hj => by
    simp only [World.frozen?, h]
    simp only [Bool.and_eq_false_iff, decide_eq_false_iff_not]
    omega) (fun v hv => by
    obtain ⟨i, hi, rfl⟩ := List.getElem_of_mem hv
    have hi' : i < xs.length := by omega
    exact (hx.2 i xs[i] us[i] (by simp) (by simp)).oneCell (h1 _ (List.getElem_mem hi')))
  simpa using this
section
variable {P : Program} {cx : Cx}
theorem inb_zero {h : Nat} {l : List AV} (x : AVs.inb 0 l = true) : AVs.inb h l = true := AVs.inb_mono (Nat.zero_le _) _ x
theorem lay_inb {h o : Nat} {l xs : List AV} (h1 : AVs.inb h l = true) (h2 : AVs.inb h xs = true) : AVs.inb h (lay l o xs) = true := by
  rw [AVs.inb_iff] at *
  intro c hc
  unfold lay at hc
  simp only [List.mem_append] at hc
  rcases hc with (hc | hc) | hc
  · exact h1 c (List.mem_of_mem_take hc)
  · exact h2 c hc
  · exact h1 c (List.mem_of_mem_drop hc)
theorem store_cells {ρ : Rho} {σ : AS} {w : World} (s : SR ρ σ w) {L : Loc} {cs : List AV} (hg : σ.get L = some (.cells cs)) {o : Nat} {xs : List AV} {us : List Value} (hx : VRs ρ w xs us)
    (h1 : ∀ x ∈ xs, x.one = true) (hle : o + xs.length ≤ cs.length) (hin : ∀ i, L = .hp i → AVs.inb 0 xs = true) {p : Place} (hp : ρ L = some p) :
    (storeCells ⟨p.b, o, none⟩ us).run P w = .ok () (w.setCells p.b o us) ∧ ∃ ρ', Ext ρ w ρ' (w.setCells p.b o us) ∧ SR ρ' (σ.set L (.cells (lay cs o xs))) (w.setCells p.b o us) := by
  obtain ⟨q, hq, hlive, hrow, vs, E, hw, hl, hv⟩ := s.obj L _ hg
  have : q = p := Option.some.inj (hq.symm.trans hp)
  subst this
  have hlen := hx.1
  have hrun := run_storeCells (P := P) (o := o) (xs := xs) (us := us) hw hx h1 (by omega) (.inl (Nat.le_refl _))
  obtain ⟨g1, g2, g3, g4, g5, cur', c1, c2, c3⟩ := setCells_spec q.b E (0, 0) us o w vs hw (by omega)
  have := s.write (w' := w.setCells q.b o us) (ob' := .cells (lay cs o xs)) (p' := q) hp hlive rfl (Nat.le_refl _) (fun _ => ⟨rfl, rfl, rfl, rfl⟩) (fun _ => rfl) (.inl rfl) (fun b _ hb => g5 b hb) (Nat.le_of_eq g4.symm) g1 g2 g3
    (fun i cs' e1 e2 => by cases e2; exact lay_inb (s.hin i cs (e1 ▸ hg)) (hin i e1))
    (fun x => ⟨hlive, hrow, cur', E, c1, ((lay_length hle).trans hl).trans c2.symm, fun i c v hc hv' => ?_⟩)
  · exact ⟨hrun, _, this.2, this.1⟩
  · rw [lay_get hle] at hc
    have hi : i < vs.size := by rw [← c2]; exact (Array.getElem?_eq_some_iff.1 hv').1
    rw [c3 i hi] at hv'
    by_cases g : o ≤ i ∧ i < o + xs.length
    · rw [if_pos g] at hc; rw [if_pos (by omega)] at hv'; exact (hx.2 _ _ _ hc hv').mono x
    · rw [if_neg g] at hc; rw [if_neg (by omega)] at hv'; exact (hv i c v hc hv').mono x
theorem one_cells {c : AV} (h : c.one = true) : c.cells = [c] := by cases c <;> simp [AV.one, AV.cells] at *
theorem withCells_cells {e e' : AV} {cs : List AV} (h : e.withCells cs = some e') : e'.cells = cs := by
  unfold AV.withCells at h
  split at h
  · cases h; rfl
  · split at h
    · rename_i h1
      cases h
      exact one_cells h1
    · cases h
  · cases h
theorem lay_elem {es : List AV} {sz i o : Nat} {e e' : AV} {xs : List AV} (he : es[i]? = some e) (hs : e.cells.length = sz) (he' : e'.cells = lay e.cells o xs) (hle : o + xs.length ≤ e.cells.length)
    {k j : Nat} {d c : AV} (hd : (es.set i e')[k]? = some d) (hc : d.cells[j]? = some c) (hj : j < sz) :
    (i * sz + o ≤ k * sz + j ∧ k * sz + j < i * sz + o + xs.length ∧ xs[k * sz + j - (i * sz + o)]? = some c) ∨
    (¬ (i * sz + o ≤ k * sz + j ∧ k * sz + j < i * sz + o + xs.length) ∧ ∃ d0, es[k]? = some d0 ∧ d0.cells[j]? = some c) := by
  rw [List.getElem?_set] at hd
  by_cases hik : i = k
  · subst hik
    rw [if_pos rfl, if_pos (List.getElem?_eq_some_iff.1 he).1] at hd
    cases hd
    rw [he', lay_get hle] at hc
    by_cases g : o ≤ j ∧ j < o + xs.length
    · rw [if_pos g] at hc
      refine .inl ⟨by omega, by omega, ?_⟩
      have : i * sz + j - (i * sz + o) = j - o := by omega
      rw [this]; exact hc
    · rw [if_neg g] at hc
      exact .inr ⟨by omega, e, he, hc⟩
  · rw [if_neg hik] at hd
    refine .inr ⟨?_, d, hd, hc⟩
    rcases Nat.lt_or_gt_of_ne hik with h | h
    · have : (i + 1) * sz ≤ k * sz := Nat.mul_le_mul_right _ h
      rw [Nat.add_mul] at this
      omega
    · have : (k + 1) * sz ≤ i * sz := Nat.mul_le_mul_right _ h
      rw [Nat.add_mul] at this
      omega
theorem store_elem {ρ : Rho} {σ : AS} {w : World} (s : SR ρ σ w) {L : Loc} {es : List AV} {sz v : Nat} (hg : σ.get L = some (.row es sz v false)) {i o : Nat} {e e' : AV} (he : es[i]? = some e) {xs : List AV} {us : List Value} (hx : VRs ρ w xs us)
    (h1 : ∀ x ∈ xs, x.one = true) (hle : o + xs.length ≤ e.cells.length) (he' : e'.cells = lay e.cells o xs) (hok' : okE sz e' = true) {p : Place} (hp : ρ L = some p) :
    (storeCells ⟨p.b, p.o + i * sz + o, none⟩ us).run P w = .ok () (w.setCells p.b (p.o + i * sz + o) us) ∧ ∃ ρ', Ext ρ w ρ' (w.setCells p.b (p.o + i * sz + o) us) ∧ SR ρ' (σ.set L (.row (es.set i e') sz v false)) (w.setCells p.b (p.o + i * sz + o) us) := by
  obtain ⟨q, hq, hr, hv, hsz, hpos, hlive, hcap, hok, hfr, vs, E, fz, hw, hlt, hfz, hval⟩ := s.obj L _ hg
  have : q = p := Option.some.inj (hq.symm.trans hp)
  subst this
  have hl : q.live = true := by simpa using hlive
  have hlen := hx.1
  have hes : e.cells.length = sz := okE_len (hok e (getElem?_mem' he))
  have hil : i < es.length := (List.getElem?_eq_some_iff.1 he).1
  have hb1 : (i + 1) * sz ≤ q.cap * sz := Nat.mul_le_mul_right _ (by omega)
  rw [Nat.add_mul] at hb1
  have hend : q.o + i * sz + o + xs.length ≤ q.o + q.cap * sz := by omega
  have hrun := run_storeCells (P := P) (o := q.o + i * sz + o) (xs := xs) (us := us) hw hx h1 (by omega) (hfz.imp id (fun h => by omega))
  obtain ⟨g1, g2, g3, g4, g5, cur', c1, c2, c3⟩ := setCells_spec q.b E fz us (q.o + i * sz + o) w vs hw (by omega)
  have := s.write (w' := w.setCells q.b (q.o + i * sz + o) us) (ob' := .row (es.set i e') sz v false) (p' := q) hp hl rfl (Nat.le_refl _) (fun _ => ⟨rfl, rfl, rfl, rfl⟩) (fun _ => rfl) (.inl rfl) (fun b _ hb => g5 b hb) (Nat.le_of_eq g4.symm) g1 g2 g3
    (fun i cs e1 e2 => by cases e2)
    (fun x => ⟨hr, hv, hsz, hpos, hlive, by simpa using hcap, fun d hd => ?_, (fun h => by cases h), cur', E, fz, c1, by omega, hfz, fun k d j c u hd hc hu => ?_⟩)
  · exact ⟨hrun, _, this.2, this.1⟩
  · rcases List.mem_or_eq_of_mem_set hd with h | h
    · exact hok d h
    · rw [h]; exact hok'
  · have hds : d.cells.length = sz := by
      rcases List.mem_or_eq_of_mem_set (getElem?_mem' hd) with h | h
      · exact okE_len (hok d h)
      · rw [h]; exact okE_len hok'
    have hj : j < sz := by rw [← hds]; exact (List.getElem?_eq_some_iff.1 hc).1
    have hk : q.o + k * sz + j < vs.size := by rw [← c2]; exact (Array.getElem?_eq_some_iff.1 hu).1
    rw [c3 _ hk] at hu
    rcases lay_elem he hes he' hle hd hc hj with ⟨a1, a2, a3⟩ | ⟨a1, d0, a2, a3⟩
    · rw [if_pos (by omega)] at hu
      have : q.o + k * sz + j - (q.o + i * sz + o) = k * sz + j - (i * sz + o) := by omega
      rw [this] at hu
      exact (hx.2 _ _ _ a3 hu).mono x
    · rw [if_neg (by omega)] at hu
      exact (hval k d0 j c u a2 a3 hu).mono x
theorem promL_keeps {ro : Option Nat} : ∀ (xs ys : List AV) (σ σ' : AS), promL ro σ xs = some (ys, σ') →
    ys.length = xs.length ∧ ((∀ x ∈ xs, x.one = true) → ∀ y ∈ ys, y.one = true) ∧ ∀ L cs, σ.get L = some (.cells cs) → σ'.get L = some (.cells cs) := by
  intro xs
  induction xs with
  | nil =>
    intro ys σ σ' h
    simp only [promL, Option.some.injEq, Prod.mk.injEq] at h
    obtain ⟨rfl, rfl⟩ := h
    exact ⟨rfl, fun h => h, fun L cs h => h⟩
  | cons x xs ih =>
    intro ys σ σ' h
    unfold promL at h
    split at h
    · rename_i heq; cases heq
    · rename_i i v off len xs' heq
      cases heq
      split at h
      · rename_i es sz v' hg
        split at h
        · rename_i hc
          split at h
          · rename_i ys' σ'' hrec
            simp only [Option.some.injEq, Prod.mk.injEq] at h
            obtain ⟨rfl, rfl⟩ := h
            obtain ⟨i1, i2, i3⟩ := ih _ _ _ hrec
            refine ⟨by simp [i1], fun hx y hy => ?_, fun L cs hL => i3 L cs ?_⟩
            · rcases List.mem_cons.1 hy with rfl | hy
              · rfl
              · exact i2 (fun x hx' => hx x (List.mem_cons_of_mem _ hx')) y hy
            · cases L with
              | hp k =>
                simp only [AS.get] at hL ⊢
                rw [List.getElem?_append_left (List.getElem?_eq_some_iff.1 hL).1]; exact hL
              | st k =>
                simp only [AS.get] at hL ⊢
                rw [List.getElem?_set]
                split
                · rename_i e; subst e; rw [hg] at hL; cases hL
                · exact hL
          · cases h
        · cases h
      · cases h
    · rename_i x' xs' hne heq
      cases heq
      split at h
      · rename_i ys' σ'' hrec
        simp only [Option.some.injEq, Prod.mk.injEq] at h
        obtain ⟨rfl, rfl⟩ := h
        obtain ⟨i1, i2, i3⟩ := ih _ _ _ hrec
        refine ⟨by simp [i1], fun hx y hy => ?_, i3⟩
        rcases List.mem_cons.1 hy with rfl | hy
        · exact hx _ (by simp)
        · exact i2 (fun x hx' => hx x (List.mem_cons_of_mem _ hx')) y hy
      · cases h
theorem fzL_keeps {ro : Option Nat} : ∀ (xs ys : List AV) (σ σ' : AS), fzL ro σ xs = some (ys, σ') → ys.length = xs.length ∧ ((∀ x ∈ xs, x.one = true) → ∀ y ∈ ys, y.one = true) := by
  intro xs
  induction xs with
  | nil =>
    intro ys σ σ' h
    simp only [fzL, Option.some.injEq, Prod.mk.injEq] at h
    obtain ⟨rfl, rfl⟩ := h
    exact ⟨rfl, fun h => h⟩
  | cons x xs ih =>
    intro ys σ σ' h
    unfold fzL at h
    split at h
    · rename_i heq; cases heq
    · rename_i i v off len xs' heq
      cases heq
      split at h
      · rename_i es sz v' fro hg
        split at h
        · rename_i hc
          split at h
          · rename_i ys' σ'' hrec
            simp only [Option.some.injEq, Prod.mk.injEq] at h
            obtain ⟨rfl, rfl⟩ := h
            obtain ⟨i1, i2⟩ := ih _ _ _ hrec
            refine ⟨by simp [i1], fun hx y hy => ?_⟩
            rcases List.mem_cons.1 hy with rfl | hy
            · rfl
            · exact i2 (fun x hx' => hx x (List.mem_cons_of_mem _ hx')) y hy
          · cases h
        · cases h
      · cases h
    · rename_i x' xs' hne heq
      cases heq
      split at h
      · rename_i ys' σ'' hrec
        simp only [Option.some.injEq, Prod.mk.injEq] at h
        obtain ⟨rfl, rfl⟩ := h
        obtain ⟨i1, i2⟩ := ih _ _ _ hrec
        refine ⟨by simp [i1], fun hx y hy => ?_⟩
        rcases List.mem_cons.1 hy with rfl | hy
        · exact hx _ (by simp)
        · exact i2 (fun x hx' => hx x (List.mem_cons_of_mem _ hx')) y hy
      · cases h
theorem storeA_sound {ρ : Rho} {σ σ' : AS} {w : World} (s : SR ρ σ w) {t : TypeId} {pa x : AV} {up ux : Value} (hp : VR ρ w pa up) (hx : VR ρ w x ux) (h : storeA P cx σ t pa x = some σ') :
    ∃ ρ' w', (Instr.storeAt t up ux).run P w = .ok () w' ∧ Ext ρ w ρ' w' ∧ SR ρ' σ' w' := by
  have hc := hx.cells
  have hlen := hc.1
  simp only [Array.length_toList] at hlen
  unfold storeA at h
  split at h
  · rename_i hcond
    obtain ⟨hsz, hone⟩ := hcond
    have h1 : ∀ c ∈ x.cells, c.one = true := by simpa using hone
    have hstore : ∀ a : Addr, (storeVar t a ux).run P w = (storeCells a ux.cells.toList).run P w := fun a => by
      simp [storeVar, run_sizeA hsz, hlen]
    split at h
    · rename_i L o
      split at h
      · rename_i cs hg
        split at h
        · rename_i hcond
          obtain ⟨_, hle⟩ := hcond
          cases hp with
          | ptr _ _ p hp hr =>
            have hsa : (Instr.storeAt t (.pointer (some ⟨p.b, o, none⟩)) ux).run P w = (storeCells ⟨p.b, o, none⟩ ux.cells.toList).run P w := by
              simp [Instr.storeAt, Instr.sureAddr, hstore]
            split at h
            · rename_i i
              split at h
              · rename_i xs σ1 hpr
                split at h
                · rename_i hin
                  cases h
                  obtain ⟨ρ1, x1, s1, v1⟩ := promL_sound _ _ _ _ _ _ hpr s hc
                  obtain ⟨p1, hp1, hr1, _, _, hb1⟩ := x1.loc _ p hp
                  have hb1 := hb1 hr
                  obtain ⟨k1, k2, k3⟩ := promL_keeps _ _ _ _ hpr
                  obtain ⟨r1, ρ2, x2, s2⟩ := store_cells (P := P) (o := o) s1 (k3 _ _ hg) v1 (k2 h1) (by omega) (fun _ _ => hin) hp1
                  rw [hb1] at r1 x2 s2
                  exact ⟨ρ2, _, by rw [hsa]; exact r1, x1.trans x2, s2⟩
                · cases h
              · cases h
            · rename_i i
              split at h
              · cases h
                obtain ⟨r1, ρ2, x2, s2⟩ := store_cells (P := P) s hg hc h1 hle (fun _ h => by cases h) hp
                exact ⟨ρ2, _, by rw [hsa]; exact r1, x2, s2⟩
              · cases h
        · cases h
      · cases h
    · rename_i L v i o
      split at h
      · rename_i xs σ1 hfz
        obtain ⟨ρ1, x1, s1, v1⟩ := fzL_sound _ _ _ _ _ _ hfz s hc
        split at h
        · rename_i es sz v' hg
          split at h
          · rename_i hcond
            obtain ⟨rfl, _⟩ := hcond
            split at h
            · rename_i e he
              split at h
              · rename_i hle
                split at h
                · rename_i e' he'
                  split at h
                  · rename_i hok'
                    cases h
                    have hp1 := hp.mono x1
                    cases hp1 with
                    | eptr _ _ _ _ p a hpl hr hv ha =>
                      obtain ⟨q, hq, hqv, hqs⟩ : ∃ q, ρ1 L = some q ∧ q.ver = v' ∧ q.sz = sz := by
                        obtain ⟨q, hq, _, a1, a2, _⟩ := s1.obj L _ hg
                        exact ⟨q, hq, a1, a2⟩
                      have : q = p := Option.some.inj (hq.symm.trans hpl)
                      subst this
                      have := ha hqv
                      subst this
                      have hsa : (Instr.storeAt t (.pointer (some ⟨q.b, q.o + i * q.sz + o, none⟩)) ux).run P w = (storeCells ⟨q.b, q.o + i * q.sz + o, none⟩ ux.cells.toList).run P w := by
                        simp [Instr.storeAt, Instr.sureAddr, hstore]
                      obtain ⟨r1, ρ2, x2, s2⟩ := store_elem (P := P) s1 hg he v1 ((fzL_keeps _ _ _ _ hfz).2 h1) hle (withCells_cells he') hok' hq
                      rw [hsa, hqs]
                      exact ⟨ρ2, _, r1, x1.trans x2, s2⟩
                  · cases h
                · cases h
              · cases h
            · cases h
          · cases h
        · cases h
      · cases h
    · cases h
  · cases h
end
end Go.Abs
end
