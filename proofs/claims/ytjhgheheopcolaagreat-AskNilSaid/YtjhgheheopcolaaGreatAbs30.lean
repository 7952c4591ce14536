/- Regions. -/
import Derived.Test.YtjhgheheopcolaaGreatAbs29
set_option linter.unusedVariables false
set_option linter.unusedSimpArgs false
namespace Go.Abs

theorem AS.get_more {σ : AS} {nh ns : List AObj} (hd : (∀ o ∈ nh, o = .dead) ∧ ∀ o ∈ ns, o = .dead) {L : Loc} {ob : AObj} (h : (AS.mk (σ.hp ++ nh) (σ.st ++ ns)).get L = some ob) : σ.get L = some ob ∨ (σ.get L = none ∧ ob = .dead) := by
  cases L with
  | hp i =>
    simp only [AS.get] at h ⊢
    rcases Nat.lt_or_ge i σ.hp.length with hi | hi
    · rw [List.getElem?_append_left hi] at h; exact .inl h
    · rw [List.getElem?_append_right hi] at h
      exact .inr ⟨List.getElem?_eq_none hi, hd.1 _ (getElem?_mem' h)⟩
  | st i =>
    simp only [AS.get] at h ⊢
    rcases Nat.lt_or_ge i σ.st.length with hi | hi
    · rw [List.getElem?_append_left hi] at h; exact .inl h
    · rw [List.getElem?_append_right hi] at h
      exact .inr ⟨List.getElem?_eq_none hi, hd.2 _ (getElem?_mem' h)⟩

theorem AS.get_more' {σ : AS} {nh ns : List AObj} {L : Loc} {ob : AObj} (h : σ.get L = some ob) : (AS.mk (σ.hp ++ nh) (σ.st ++ ns)).get L = some ob := by
  cases L with
  | hp i => simp only [AS.get] at h ⊢; rw [List.getElem?_append_left (List.getElem?_eq_some_iff.1 h).1]; exact h
  | st i => simp only [AS.get] at h ⊢; rw [List.getElem?_append_left (List.getElem?_eq_some_iff.1 h).1]; exact h

theorem SR.reserve {ρ : Rho} {σ : AS} {w : World} (s : SR ρ σ w) {nh ns : List AObj} (hd : (∀ o ∈ nh, o = .dead) ∧ ∀ o ∈ ns, o = .dead) : SR ρ (AS.mk (σ.hp ++ nh) (σ.st ++ ns)) w := by
  refine ⟨⟨fun L ob ho hnd => ?_⟩, fun L p hp => ?_, s.inj, s.lt, fun i cs hc => ?_, s.nres, s.resl⟩
  · rcases AS.get_more hd ho with h | ⟨_, h⟩
    · exact s.objD L ob h hnd
    · exact absurd h hnd
  · obtain ⟨ob, ho⟩ := s.dom L p hp
    exact ⟨ob, AS.get_more' ho⟩
  · rcases AS.get_more hd hc with h | ⟨_, h⟩
    · exact s.hin i cs h
    · cases h

/-! Regions in which calls and stores come one behind the other: what they do. -/
section
variable {P : Program} {cx : Cx} {call : Caller}

theorem SR.joinW {ρ ρ1 : Rho} {σ σ1 : AS} {w w' : World} {h : Nat} (s : SR ρ σ w) (x : Ext (ρ.hide h) w ρ1 w') (s1 : SR ρ1 σ1 w') (hi1 : Inv h σ1) (hlen : σ1.st.length = h) :
    Ext ρ w (ρ.join ρ1 h) w' ∧ SR (ρ.join ρ1 h) { hp := σ1.hp, st := σ1.st ++ σ.st.drop h } w' ∧ ∀ c v, VR ρ1 w' c v → c.inb h = true → VR (ρ.join ρ1 h) w' c v := by
  have hin : ∀ L, L.inb h = true → ρ.join ρ1 h L = ρ1 L := fun L h => by simp [Rho.join, h]
  have hout : ∀ L, ¬ L.inb h = true → ρ.join ρ1 h L = ρ L := fun L h => by simp [Rho.join, h]
  have gin : ∀ L, L.inb h = true → ({ hp := σ1.hp, st := σ1.st ++ σ.st.drop h } : AS).get L = σ1.get L := fun L hL => by
    cases L with
    | hp j => rfl
    | st j =>
      have hj : j < h := by simpa [Loc.inb] using hL
      simp only [AS.get]
      rw [List.getElem?_append_left (by omega)]
  have gout : ∀ L, ¬ L.inb h = true → ({ hp := σ1.hp, st := σ1.st ++ σ.st.drop h } : AS).get L = σ.get L := fun L hL => by
    cases L with
    | hp j => exact absurd rfl hL
    | st j =>
      have hj : h ≤ j := by simpa [Loc.inb] using hL
      simp only [AS.get]
      rw [List.getElem?_append_right (by omega), List.getElem?_drop]
      congr 1
      omega
  have hres : ρ1.res = (ρ.hide h).res := x.res.1
  have hpend : ∀ L p, ¬ L.inb h = true → ρ L = some p → p.live = true → ρ1.res p.b := fun L p h1 h2 h3 => by rw [hres]; exact .inr ⟨L, p, h2, by simpa using h1, h3, rfl⟩
  have hF : ∀ b, Free ρ1 b → Free (ρ.join ρ1 h) b := fun b hf => ⟨fun L p hp hl => by
    by_cases hLi : L.inb h = true
    · rw [hin L hLi] at hp; exact hf.1 L p hp hl
    · rw [hout L hLi] at hp
      intro e
      exact hf.2 (e ▸ hpend L p hLi hp hl), fun hr => hf.2 (by rw [hres]; exact .inl hr)⟩
  have hL : ∀ L p, ρ1 L = some p → L.inb h = true → ρ.join ρ1 h L = some p := fun L p h1 h2 => by rw [hin L h2]; exact h1
  have hext : Ext ρ w (ρ.join ρ1 h) w' := by
    refine ⟨fun L p hp => ?_, fun b hb hf => ?_, ⟨rfl, fun b hb hr => x.res.2 b hb (.inl hr)⟩, x.size, x.os, x.tape, x.output⟩
    · by_cases hLi : L.inb h = true
      · obtain ⟨p', e, r⟩ := x.loc L p (Rho.hide_of hp hLi)
        exact ⟨p', hL L p' e hLi, r⟩
      · exact ⟨p, by rw [hout L hLi]; exact hp, rfl, Nat.le_refl _, fun _ => ⟨rfl, rfl, rfl, rfl⟩, fun _ => rfl⟩
    · obtain ⟨f1, f2⟩ := x.free b hb hf.hide
      exact ⟨hF b f1, f2⟩
  refine ⟨hext, ⟨⟨fun L ob ho hnd => ?_⟩, fun L p hp => ?_, fun L L' p p' h1 h2 l1 l2 e => ?_, fun L p h1 l1 => ?_, fun i cs hc => s1.hin i cs hc, fun L p h1 l1 hr => ?_, fun b hb => Nat.lt_of_lt_of_le (s.resl b hb) x.size⟩, fun c v hv hc => hv.re hL hF hc⟩
  · by_cases hLi : L.inb h = true
    · rw [gin L hLi] at ho
      obtain ⟨p, hp, hob⟩ := s1.objD L ob ho hnd
      exact ⟨p, hL L p hp hLi, hob.re hL hF (s1.obInb hi1 ho hLi)⟩
    · rw [gout L hLi] at ho
      obtain ⟨p, hp, hob⟩ := s.objD L ob ho hnd
      refine ⟨p, by rw [hout L hLi]; exact hp, hob.mono hext fun hl => ?_⟩
      exact x.res.2 p.b (s.lt L p hp hl) (.inr ⟨L, p, hp, by simpa using hLi, hl, rfl⟩)
  · by_cases hLi : L.inb h = true
    · rw [hin L hLi] at hp
      obtain ⟨ob, ho⟩ := s1.dom L p hp
      exact ⟨ob, by rw [gin L hLi]; exact ho⟩
    · rw [hout L hLi] at hp
      rw [gout L hLi]
      exact s.dom L p hp
  · by_cases hLi : L.inb h = true
    · rw [hin L hLi] at h1
      by_cases hLi' : L'.inb h = true
      · rw [hin L' hLi'] at h2
        exact s1.inj L L' p p' h1 h2 l1 l2 e
      · rw [hout L' hLi'] at h2
        exact absurd (e ▸ hpend L' p' hLi' h2 l2) (s1.nres L p h1 l1)
    · rw [hout L hLi] at h1
      by_cases hLi' : L'.inb h = true
      · rw [hin L' hLi'] at h2
        exact absurd (e ▸ hpend L p hLi h1 l1) (s1.nres L' p' h2 l2)
      · rw [hout L' hLi'] at h2
        exact s.inj L L' p p' h1 h2 l1 l2 e
  · by_cases hLi : L.inb h = true
    · rw [hin L hLi] at h1; exact s1.lt L p h1 l1
    · rw [hout L hLi] at h1; exact Nat.lt_of_lt_of_le (s.lt L p h1 l1) x.size
  · by_cases hLi : L.inb h = true
    · rw [hin L hLi] at h1
      exact s1.nres L p h1 l1 (by rw [hres]; exact .inl hr)
    · rw [hout L hLi] at h1; exact s.nres L p h1 l1 hr

def RM (P : Program) (cx : Cx) (ρ0 : Rho) (w0 : World) (σ0 : AS) (ops : List Oper) (S : Env × AS × Nat) (a : Act) (w : World) : Prop :=
  ∃ ρ, Ext ρ0 w0 ρ w ∧ SR ρ S.2.1 w ∧ ER ρ w S.1 a.tmps ∧ a.defers = [] ∧
    (∀ i, kSt P cx ops S.2.2 S.2.1 ≤ i → S.2.1.get (.st i) = some .dead → ρ (.st i) = none) ∧ (∀ i, kHp P cx ops S.2.2 S.2.1 ≤ i → S.2.1.get (.hp i) = some .dead → ρ (.hp i) = none) ∧
    (S.2.2 = 0 → Inv σ0.st.length S.2.1 ∧ σ0.st.length + cntM P ops (newSt cx) 0 ops.length ≤ S.2.1.st.length)

theorem SRo.trunc {ρ : Rho} {σ0 σ : AS} {w : World} (s : SRo ρ σ w) : SRo ρ (truncM σ0 σ) w := ⟨fun L ob hg hnd => by
  refine s.objD L ob ?_ hnd
  cases L with
  | st i =>
    simp only [truncM, AS.get, List.getElem?_take] at hg ⊢
    split at hg
    · exact hg
    · cases hg
  | hp i =>
    simp only [truncM, AS.get, List.getElem?_take] at hg ⊢
    split at hg
    · exact hg
    · cases hg⟩

theorem rvalM_key {ρ : Rho} {σ0 σ : AS} {w : World} (s : SRo ρ σ w) {env : Env} {ops : List Oper} {chk : Option Env} {i : Nat} {o : Oper} {v : AV}
    (h : rvalM P σ0 ops chk i o env σ = some v) : ∃ (σ' : AS), SRo ρ σ' w ∧ optsA env o = true ∧ valA P σ' env o = some v := by
  have hopt : optsA env o = true := by
    unfold rvalM at h
    split at h
    · assumption
    · cases h
  by_cases c0 : clsM P ops i o = 0
  · rw [rvalM_eq0 c0, if_pos hopt] at h
    have he : isEnv o = true := by
      unfold clsM at c0
      split at c0
      · split at c0
        · assumption
        · split at c0 <;> cases c0
      · split at c0
        · cases c0
        · split at c0 <;> cases c0
    exact ⟨σ, s, hopt, by rw [isEnv_val (σ' := σ0) he]; exact h⟩
  · by_cases c1 : clsM P ops i o = 1
    · rw [rvalM_eq1 c1, if_pos hopt] at h
      cases chk with
      | none => exact ⟨_, s.trunc, hopt, h⟩
      | some e =>
        dsimp only at h
        split at h
        · rename_i hag
          exact ⟨_, s.trunc, hopt, by rw [← (valA_congr (P := P) (agreeB_spec hag)).1]; exact h⟩
        · cases h
    · unfold rvalM at h
      rw [if_pos hopt] at h
      split at h
      · rename_i hc; exact absurd hc c0
      · rename_i hc; exact absurd hc c1
      · exact ⟨σ, s, hopt, h⟩

theorem cntM_zero {ops : List Oper} {p : Oper → Bool} {k n : Nat} (h : (ops.all fun o => !p o) = true) : cntM P ops p k n = 0 := by
  unfold cntM
  rw [List.length_eq_zero_iff, List.filter_eq_nil_iff]
  intro i _
  unfold atBlk
  cases ho : ops[i]? with
  | none => simp
  | some o =>
    rw [List.all_eq_true] at h
    have := h o (getElem?_mem' ho)
    simp only [Bool.not_eq_true'] at this
    simp [this]

theorem reserve_dead {ρ : Rho} {σ : AS} {w : World} (s : SR ρ σ w) {ops : List Oper} {k : Nat} : SR ρ (reserveM P cx ops k σ) w ∧
    (∀ i, kSt P cx ops k (reserveM P cx ops k σ) ≤ i → ρ (.st i) = none) ∧ (∀ i, kHp P cx ops k (reserveM P cx ops k σ) ≤ i → ρ (.hp i) = none) := by
  refine ⟨s.reserve ⟨fun o ho => (List.mem_replicate.1 ho).2, fun o ho => (List.mem_replicate.1 ho).2⟩, fun i hi => ?_, fun i hi => ?_⟩
  · cases hr : ρ (.st i) with
    | none => rfl
    | some p =>
      obtain ⟨ob, ho⟩ := s.dom _ p hr
      simp only [AS.get] at ho
      have := (List.getElem?_eq_some_iff.1 ho).1
      simp [kSt, reserveM] at hi
      omega
  · cases hr : ρ (.hp i) with
    | none => rfl
    | some p =>
      obtain ⟨ob, ho⟩ := s.dom _ p hr
      simp only [AS.get] at ho
      have := (List.getElem?_eq_some_iff.1 ho).1
      simp [kHp, reserveM] at hi
      omega

theorem ms_sound (hC : CallOk P call) {ρ0 : Rho} {w0 : World} {σ0 : AS} {ops : Array Oper} {chk : Option Env} {Q : Exit → Act → World → Prop} (i : Nat) (s s' : Env × AS × Nat) (a : Act) (w : World) (h : ms P cx call σ0 ops.toList false chk i s = some s')
    (hR : RM P cx ρ0 w0 σ0 ops.toList s a w) (K : Act → World → Prop) (hK : ∀ a' w', RM P cx ρ0 w0 σ0 ops.toList s' a' w' → K a' w') : wpOp P ops Q i K a w := by
  obtain ⟨env, σ, k⟩ := s
  obtain ⟨ρ, x, sr, hE, hd, hst, hhp, hz⟩ := hR
  simp only at sr hE hst hhp hz
  unfold ms at h
  unfold wpOp
  cases ho : ops[i]? with
  | none => rw [show ops.toList[i]? = none by simpa using ho] at h; cases h
  | some o =>
    rw [show ops.toList[i]? = some o by simpa using ho] at h
    simp only at h ⊢
    have hdp : ∀ u, (a.put o.dst u).defers = [] := fun u => by cases hh : o.dst <;> simp [Act.put, hd]
    rw [← wantedA_eq hE ops o]
    cases hm : mres P cx call σ0 ops.toList false chk i o env σ k with
    | none => rw [hm] at h; cases h
    | some r =>
      obtain ⟨v, σ1, k1⟩ := r
      rw [hm] at h
      cases h
      have keep : ∀ (c : AV) (u : Value), VR ρ w c u → RM P cx ρ0 w0 σ0 ops.toList (putE env o.dst c, σ, k) (a.put o.dst u) w := fun c u hv => ⟨ρ, x, sr, hE.put hv, hdp u, hst, hhp, hz⟩
      by_cases c3 : clsM P ops.toList i o = 3
      · obtain ⟨e1, bk, g2, g3, hm'⟩ := mres_new c3 hm
        subst e1
        rcases hm' with ⟨rfl, hw, rfl⟩ | ⟨ob, hw, hn, hg, rfl⟩
        · rw [if_neg (by rw [hw]; simp)]
          exact hK _ _ (keep _ _ VR.undef)
        · rw [if_pos hw]
          refine .inl ?_
          obtain ⟨m, hmo, ⟨u, w', p, n1, n2, n3, n4, n5, n6, n7, n8, n9⟩, hin, hnd, hro, _⟩ := newA_sound (P := P) hE hn
          have hkS : ∀ L ob, kSt P cx ops.toList k1 (σ.set L ob) = kSt P cx ops.toList k1 σ := fun L ob => by unfold kSt; rw [AS.set_len.1]
          have hkH : ∀ L ob, kHp P cx ops.toList k1 (σ.set L ob) = kHp P cx ops.toList k1 σ := fun L ob => by unfold kHp; rw [AS.set_len.2]
          have hoi : ops.toList[i]? = some o := by simpa using ho
          have hL0 : ρ (slotM P cx σ0 ops.toList i o σ k1) = none := by
            unfold slotM newLoc at hg ⊢
            cases he : escNew cx o with
            | true =>
              have hno : ¬ noHp cx ops.toList = true := fun hh => by rw [noHp_st hoi (cls3_new c3) hh] at he; cases he
              simp only [he, if_true, khM, if_neg hno] at hg ⊢
              refine hhp _ ?_ hg
              unfold kHp at *
              omega
            | false =>
              simp only [he, Bool.false_eq_true, if_false] at hg ⊢
              refine hst _ ?_ hg
              unfold kSt at *
              omega
          obtain ⟨s2, x2⟩ := sr.fill hg hL0 n2 n3 n4 n5 n6 n7 n8 (fun j cs e1 e2 => hin (by
            unfold slotM newLoc at e1
            cases he : escNew cx o with
            | true => rfl
            | false => rw [he] at e1; cases e1) cs e2) (fun x' => (n9 _ x' (upd_same _ _ _)).1)
          have hvr := (n9 _ x2 (upd_same _ _ _)).2
          unfold Oper.wp
          rw [hmo, Sem.run_bind, n1]
          refine hK _ _ ⟨_, x.trans x2, s2, (hE.mono x2).put hvr, hdp u, fun j hj hdj => ?_, fun j hj hdj => ?_, fun h0 => ⟨fun j cs hj hgj => ?_, by rw [AS.set_len.1]; exact (hz h0).2⟩⟩
          · rw [hkS] at hj
            rw [AS.get_set] at hdj
            split at hdj
            · rw [hg] at hdj
              simp only [Option.isSome_some, if_true, Option.some.injEq] at hdj
              exact absurd hdj hnd
            · rename_i hne
              rw [upd_ne hne]; exact hst j hj hdj
          · rw [hkH] at hj
            rw [AS.get_set] at hdj
            split at hdj
            · rw [hg] at hdj
              simp only [Option.isSome_some, if_true, Option.some.injEq] at hdj
              exact absurd hdj hnd
            · rename_i hne
              rw [upd_ne hne]; exact hhp j hj hdj
          · refine (hz h0).1 j cs hj ?_
            have hne : (Loc.st j) ≠ slotM P cx σ0 ops.toList i o σ k1 := by
              unfold slotM newLoc
              cases escNew cx o with
              | true => intro h; cases h
              | false =>
                intro h
                simp only [Bool.false_eq_true, if_false, Loc.st.injEq] at h
                omega
            have := AS.get_set (σ := σ) (L := slotM P cx σ0 ops.toList i o σ k1) (L' := .st j) (ob := ob)
            rw [if_neg hne] at this
            simp only [AS.get] at this
            rw [← this]
            exact hgj
      · by_cases c4 : clsM P ops.toList i o = 4
        · rw [mres_eq_T c4] at hm
          split at hm
          · by_cases hw : wantedA ops.toList env o = true
            · rw [if_pos hw] at hm ⊢
              refine .inl ?_
              cases he : effA P cx call σ env o with
              | none => rw [he] at hm; cases hm
              | some r2 =>
                obtain ⟨v2, σ2⟩ := r2
                rw [he] at hm
                simp only at hm
                split at hm
                · cases hm
                  refine effA_sound hC sr hE he fun u w' ρ' x' s' v' => ?_
                  obtain ⟨s3, d1, d2⟩ := reserve_dead (P := P) (cx := cx) s' (ops := ops.toList) (k := k + 1)
                  exact hK _ _ ⟨ρ', x.trans x', s3, (hE.mono x').put v', hdp u, fun j hj _ => d1 j hj, fun j hj _ => d2 j hj, fun h0 => by cases h0⟩
                · cases hm
            · rw [if_neg hw] at hm ⊢
              simp only at hm
              split at hm
              · cases hm
                obtain ⟨s3, d1, d2⟩ := reserve_dead (P := P) (cx := cx) sr (ops := ops.toList) (k := k + 1)
                exact hK _ _ ⟨ρ, x, s3, hE.put VR.undef, hdp undef, fun j hj _ => d1 j hj, fun j hj _ => d2 j hj, fun h0 => by cases h0⟩
              · cases hm
          · cases hm
        · by_cases c5 : clsM P ops.toList i o = 5
          · rw [mres_eq_C c5] at hm
            split at hm
            · rename_i hk0
              by_cases hw : wantedA ops.toList env o = true
              · rw [if_pos hw] at hm ⊢
                refine .inl ?_
                cases he : cutCall cx call σ0 ops.toList o env σ with
                | none => rw [he] at hm; cases hm
                | some r2 =>
                  obtain ⟨v2, σ2⟩ := r2
                  rw [he] at hm
                  simp only at hm
                  split at hm
                  · cases hm
                    obtain ⟨hno, l1, l2, l3, l4, l5⟩ := cutCall_spec he
                    unfold cutCall at he
                    split at he
                    · rename_i f args ats hop
                      split at he
                      · rename_i fv as hf has
                        split at he
                        · rename_i g gs hcal
                          split at he
                          · rename_i hc
                            split at he
                            · rename_i v1 σ3 hcall
                              split at he
                              · rename_i h2
                                cases he
                                have hsc := sr.hide (hz hk0).1
                                have hcut : σ.cut σ0.st.length = { hp := σ.hp, st := σ.st.take σ0.st.length } := rfl
                                rw [hcut] at hsc
                                have hLh : ∀ L p, ρ L = some p → L.inb σ0.st.length = true → ρ.hide σ0.st.length L = some p := fun L p h1 h2 => Rho.hide_of h1 h2
                                obtain ⟨fn, f1, f2, f3⟩ := hC.ent _ _ _ _ _ hcall
                                have hargs : (args.map a.eval) = (args.toList.map a.eval).toArray := by apply Array.ext'; simp
                                obtain ⟨vs, hvs, hrun⟩ := callee_run (P := P) hcal (ev_sound hE hf) (evs_sound hE has) f1 f2 f3
                                have hvs' : VRs (ρ.hide σ0.st.length) w gs vs := ⟨hvs.1, fun j c v hc' hv => (hvs.2 j c v hc' hv).re hLh (fun b x => x.hide) (cell_inb hc.1 hc')⟩
                                unfold Oper.wp
                                have : (execOp a.eval o) = (do let d ← Deferred.ofValue (a.eval f) (args.toList.map a.eval).toArray; invoke d.target d.args : Sem Next) := by
                                  simp only [execOp, hop, resolve, hargs]
                                rw [this, hrun]
                                have hb := hC.beh _ _ _ _ _ _ hcall
                                have hcl : ({ hp := σ.hp, st := σ.st.take σ0.st.length } : AS).st.length = σ0.st.length := by simp; omega
                                have hic : Inv σ0.st.length { hp := σ.hp, st := σ.st.take σ0.st.length } := fun j cs hj hg => (hz hk0).1 j cs hj (by simpa [List.getElem?_take, hj] using hg)
                                have hi3 : Inv σ0.st.length σ3 := hb.inv _ (Nat.le_of_eq hcl.symm) hic
                                refine (hC.snd _ _ _ _ _ _ hcall (ρ.hide σ0.st.length) w vs hsc hvs').mono fun e w' ⟨ρ1, u, he, x1, s1, v1'⟩ => ?_
                                subst he
                                obtain ⟨j1, j2, j3⟩ := sr.joinW x1 s1 hi3 h2.2.1
                                refine hK _ _ ⟨_, x.trans j1, j2, (hE.mono j1).put (j3 _ _ v1' h2.1), hdp u, fun j hj hdj => ?_, fun j hj hdj => ?_, fun _ => ⟨fun j cs hj hg => ?_, ?_⟩⟩
                                · have hlen2 : σ3.st.length + (σ.st.length - σ0.st.length) = σ.st.length := by omega
                                  have hjb : σ0.st.length ≤ j := by
                                    have := (hz hk0).2
                                    rw [hk0] at hj
                                    simp only [kSt, List.length_append, List.length_drop, hlen2] at hj
                                    omega
                                  have hLi : ¬ (Loc.st j).inb σ0.st.length = true := by simp [Loc.inb]; omega
                                  have hρ : (ρ.join ρ1 σ0.st.length) (.st j) = ρ (.st j) := by simp [Rho.join, hLi]
                                  rw [hρ]
                                  refine hst j ?_ ?_
                                  · simp only [kSt, List.length_append, List.length_drop, hlen2] at hj
                                    exact hj
                                  · simp only [AS.get] at hdj ⊢
                                    rw [List.getElem?_append_right (by omega), List.getElem?_drop] at hdj
                                    have : σ0.st.length + (j - σ3.st.length) = j := by omega
                                    rw [this] at hdj
                                    exact hdj
                                · exfalso
                                  have hcnt : cntM P ops.toList (newHp cx) k ops.toList.length = 0 := cntM_zero hno
                                  simp only [kHp, hcnt, Nat.sub_zero] at hj
                                  simp only [AS.get] at hdj
                                  have := (List.getElem?_eq_some_iff.1 hdj).1
                                  omega
                                · simp only at hg
                                  rw [List.getElem?_append_left (by omega)] at hg
                                  exact hi3 j cs hj hg
                                · have := (hz hk0).2
                                  simp only [List.length_append, List.length_drop]
                                  omega
                              · cases he
                            · cases he
                          · cases he
                        · cases he
                      · cases he
                    · cases he
                  · cases hm
              · rw [if_neg hw] at hm ⊢
                simp only at hm
                split at hm
                · cases hm
                  exact hK _ _ (keep _ _ VR.undef)
                · cases hm
            · cases hm
          rw [mres_eq_read c3 c4 c5] at hm
          by_cases hw : wantedA ops.toList env o = true
          · rw [if_pos hw] at hm ⊢
            refine .inl ?_
            cases hv : rvalM P σ0 ops.toList chk i o env σ with
            | none => rw [hv] at hm; cases hm
            | some v' =>
              rw [hv] at hm
              cases hm
              obtain ⟨σ', s', hopt, hva⟩ := rvalM_key (P := P) sr.toSRo hv
              obtain ⟨u, h1, h2⟩ := valA_sound (P := P) s' hE hopt hva
              exact wp_value h1 (hK _ _ (keep v u h2))
          · rw [if_neg hw] at hm ⊢
            cases hm
            exact hK _ _ (keep _ _ VR.undef)
end
section
variable {P : Program} {cx : Cx} {call : Caller}

theorem mixA_run {σ : AS} {ops : List Oper} {env env' : Env} {σ' : AS} (h : mixA P cx call σ ops env = some (env', σ')) : (noHp cx ops || cx.ro.isNone) = true ∧
    ∃ chk k', runS (ms P cx call σ ops false chk) ops.length 0 (env, reserveM P cx ops 0 σ, 0) = some (env', σ', k') := by
  unfold mixA at h
  split at h
  · rename_i hro
    refine ⟨hro, ?_⟩
    split at h
    · split at h
      · rename_i e _ _ _
        split at h
        · rename_i e1 s1 k1 hr
          cases h
          exact ⟨_, _, hr⟩
        · cases h
      · cases h
    · split at h
      · rename_i e1 s1 k1 hr
        cases h
        exact ⟨_, _, hr⟩
      · cases h
  · cases h

theorem mixA_sound (hm : P.follows .mixedOrders = true) (hC : CallOk P call) {id : Nat} {ops : Array Oper} (hk : mixOk P ops = true) {env env' : Env} {σ σ' : AS} {a : Act} {w : World} {ρ : Rho}
    (s : SR ρ σ w) (hE : ER ρ w env a.tmps) (hd : a.defers = []) (h : mixA P cx call σ ops.toList env = some (env', σ')) {Q : Exit → Act → World → Prop}
    (hQ : ∀ a' w' ρ', Ext ρ w ρ' w' → SR ρ' σ' w' → ER ρ' w' env' a'.tmps → a'.defers = [] → Q .normal a' w') : (Code.region id ops true).wp P Q a w := by
  obtain ⟨_, chk, k', hrun⟩ := mixA_run h
  obtain ⟨hback, hpair⟩ := mixOk_spec hk
  refine wp_region_mix (ms P cx call σ ops.toList false chk) (fun i j oi oj hi hj hij hl s s1 s2 h1 h2 => ms_comm i j oi oj hi hj hij (hpair i j oi oj hi hj hij hl).1 hl (hpair i j oi oj hi hj hij hl).2 s s1 s2 h1 h2)
    (R := fun S a w' => RM P cx ρ { w with drawn := w.drawn + 1 } σ ops.toList S a w') hm hback (fun i s0 s1 a0 w0 hs hR K hK => ms_sound hC i s0 s1 a0 w0 hs hR K hK) (by simpa using hrun) ?_ ?_
  · obtain ⟨s3, d1, d2⟩ := reserve_dead (P := P) (cx := cx) s.drew (ops := ops.toList) (k := 0)
    exact ⟨ρ, Ext.refl _ _, s3, hE.mono Ext.drew, hd, fun j hj _ => d1 j hj, fun j hj _ => d2 j hj, fun _ => ⟨fun j cs hj hg => s.inv j cs hj (by simp only [reserveM] at hg; rw [List.getElem?_append_left hj] at hg; exact hg), by simp [reserveM]⟩⟩
  · intro a1 w1 ⟨ρ1, x1, s1, hE1, hd1, _⟩
    exact hQ a1 w1 ρ1 (Ext.drew.trans x1) s1 hE1 hd1

theorem reserve_beh {ops : List Oper} (hro : (noHp cx ops || cx.ro.isNone) = true) {σ : AS} {k : Nat} (hh : cx.h ≤ σ.st.length) : Beh cx.h cx.ro σ (reserveM P cx ops k σ) := by
  refine ⟨fun n hn hi i cs hin hg => ?_, fun n hr hn => ⟨?_, ?_⟩, by simp [reserveM]⟩
  · simp only [reserveM] at hg
    rw [List.getElem?_append_left (by omega)] at hg
    exact hi i cs hin hg
  · rw [hr] at hro
    simp only [Option.isNone_some, Bool.or_false] at hro
    simp [reserveM, cntM_zero hro]
  · simp only [reserveM]
    rw [List.take_append_of_le_length hn]

theorem ms_beh (hC : CallOk P call) {σ0 : AS} {ops : List Oper} {chk : Option Env} (hro : (noHp cx ops || cx.ro.isNone) = true) (hh : cx.h ≤ σ0.st.length) {i : Nat} {s s' : Env × AS × Nat}
    (h : ms P cx call σ0 ops false chk i s = some s') (hb : Beh cx.h cx.ro σ0 s.2.1) : Beh cx.h cx.ro σ0 s'.2.1 := by
  obtain ⟨env, σ, k⟩ := s
  simp only at hb
  unfold ms at h
  cases ho : ops[i]? with
  | none => rw [ho] at h; cases h
  | some o =>
    rw [ho] at h
    simp only at h
    cases hm : mres P cx call σ0 ops false chk i o env σ k with
    | none => rw [hm] at h; cases h
    | some r =>
      obtain ⟨v, σ1, k1⟩ := r
      rw [hm] at h
      cases h
      have hlen := hb.len
      by_cases c3 : clsM P ops i o = 3
      · obtain ⟨e1, bk, g2, g3, hm'⟩ := mres_new c3 hm
        rcases hm' with ⟨rfl, _, _⟩ | ⟨ob, hw, hn, hg, rfl⟩
        · exact hb
        · cases he : escNew cx o with
          | true =>
            have hnone : cx.ro = none := by
              rw [Bool.or_eq_true, noHp, List.all_eq_true] at hro
              rcases hro with hro | hro
              · have := hro o (getElem?_mem' ho)
                simp [newHp, cls3_new c3, he] at this
              · simpa using hro
            refine ⟨fun n hn' hi j cs hj hg' => ?_, fun n hr => (by rw [hnone] at hr; cases hr), ?_⟩
            · simp only [slotM, newLoc, he, if_true, AS.set] at hg'
              exact hb.inv n hn' hi j cs hj hg'
            · simp only [slotM, newLoc, he, if_true, AS.set]; exact hlen
          | false =>
            refine ⟨fun n hn' hi j cs hj hg' => ?_, fun n hr hn' => ?_, ?_⟩
            · simp only [slotM, newLoc, he, Bool.false_eq_true, if_false, AS.set] at hg'
              rw [List.getElem?_set_ne (by omega)] at hg'
              exact hb.inv n hn' hi j cs hj hg'
            · obtain ⟨b1, b2⟩ := hb.ro n hr hn'
              simp only [slotM, newLoc, he, Bool.false_eq_true, if_false, AS.set]
              refine ⟨b1, ?_⟩
              rw [List.take_set_of_le (by omega)]
              exact b2
            · simp only [slotM, newLoc, he, Bool.false_eq_true, if_false, AS.set, List.length_set]; exact hlen
      · by_cases c4 : clsM P ops i o = 4
        · rw [mres_eq_T c4] at hm
          split at hm
          · by_cases hw : wantedA ops env o = true
            · rw [if_pos hw] at hm
              cases he : effA P cx call σ env o with
              | none => rw [he] at hm; cases hm
              | some r2 =>
                obtain ⟨v2, σ2⟩ := r2
                rw [he] at hm
                simp only at hm
                split at hm
                · cases hm
                  have b1 := effA_beh hC he (by omega)
                  have l1 := b1.len
                  exact (hb.trans b1).trans (reserve_beh hro (by omega))
                · cases hm
            · rw [if_neg hw] at hm
              simp only at hm
              split at hm
              · cases hm
                exact hb.trans (reserve_beh hro (by omega))
              · cases hm
          · cases hm
        · by_cases c5 : clsM P ops i o = 5
          · rw [mres_eq_C c5] at hm
            split at hm
            · by_cases hw : wantedA ops env o = true
              · rw [if_pos hw] at hm
                cases he : cutCall cx call σ0 ops o env σ with
                | none => rw [he] at hm; cases hm
                | some r2 =>
                  obtain ⟨v2, σ2⟩ := r2
                  rw [he] at hm
                  simp only at hm
                  split at hm
                  · cases hm
                    obtain ⟨_, l1, l2, l3, l4, l5⟩ := cutCall_spec he
                    unfold cutCall at he
                    split at he
                    · split at he
                      · split at he
                        · split at he
                          · split at he
                            · rename_i v1 σ3 hcall
                              split at he
                              · rename_i h2
                                cases he
                                have hcl : ({ hp := σ.hp, st := σ.st.take σ0.st.length } : AS).st.length = σ0.st.length := by simp; omega
                                have b1 := hC.beh _ _ _ _ _ _ hcall
                                have hl3 : σ3.st.length = σ0.st.length := h2.2.1
                                refine ⟨fun n hn hi j cs hj hg => ?_, fun n hr hn => ?_, by simp only [List.length_append, List.length_drop]; omega⟩
                                · simp only at hg
                                  rw [List.getElem?_append_left (by omega)] at hg
                                  refine b1.inv n (by omega) (fun j' cs' hj' hg' => ?_) j cs hj hg
                                  simp only [List.getElem?_take] at hg'
                                  split at hg'
                                  · exact hb.inv n hn hi j' cs' hj' hg'
                                  · cases hg'
                                · obtain ⟨d1, d2⟩ := hb.ro n hr hn
                                  obtain ⟨c1, c2⟩ := b1.ro n hr (by omega)
                                  refine ⟨c1.trans d1, ?_⟩
                                  simp only
                                  rw [List.take_append_of_le_length (by omega), c2]
                                  simp only [List.take_take]
                                  rw [Nat.min_eq_left hn]
                                  exact d2
                              · cases he
                            · cases he
                          · cases he
                        · cases he
                      · cases he
                    · cases he
                  · cases hm
              · rw [if_neg hw] at hm
                simp only at hm
                split at hm
                · cases hm
                  exact hb
                · cases hm
            · cases hm
          · obtain ⟨rfl, _, _⟩ := mres_read c3 c4 c5 hm
            exact hb

theorem runS_beh (hC : CallOk P call) {σ0 : AS} {ops : List Oper} {chk : Option Env} (hro : (noHp cx ops || cx.ro.isNone) = true) (hh : cx.h ≤ σ0.st.length) : ∀ (m i : Nat) (s s' : Env × AS × Nat),
    runS (ms P cx call σ0 ops false chk) m i s = some s' → Beh cx.h cx.ro σ0 s.2.1 → Beh cx.h cx.ro σ0 s'.2.1
  | 0, i, s, s', h, hb => by simp only [runS, Option.some.injEq] at h; subst h; exact hb
  | m + 1, i, s, s', h, hb => by
    simp only [runS] at h
    split at h
    · rename_i s1 h1
      exact runS_beh hC hro hh m (i + 1) s1 s' h (ms_beh hC hro hh h1 hb)
    · cases h

theorem mixA_beh (hC : CallOk P call) {ops : List Oper} {env env' : Env} {σ σ' : AS} (h : mixA P cx call σ ops env = some (env', σ')) (hh : cx.h ≤ σ.st.length) : Beh cx.h cx.ro σ σ' := by
  obtain ⟨hro, chk, k', hrun⟩ := mixA_run h
  exact runS_beh hC hro hh _ _ _ _ hrun (reserve_beh hro hh)
end

section
variable {P : Program} {cx : Cx} {call : Caller} {tails : List Nat}

/-- Is every region of that code fit to be run in the order of the text? -/
def codeOk (P : Program) (tails : List Nat) : Code → Bool
  | .region id ops draw => !draw || tails.contains (id + 1000000) || (if tails.contains (id + 2000000) = true then mixOk P ops else drawOk ops (quietN P (tails.contains id) ops.toList))
  | .seq a b => codeOk P tails a && codeOk P tails b
  | .cond _ a b => codeOk P tails a && codeOk P tails b
  | .block _ c => codeOk P tails c
  | .loop c => codeOk P tails c
  | _ => true

theorem quietN_le {P : Program} {t : Bool} {ops : List Oper} : quietN P t ops ≤ ops.length := by
  unfold quietN
  have := (List.takeWhile_prefix (p := quietOp P t) (l := ops)).length_le
  exact this

theorem regionA_sound (hm : P.follows .mixedOrders = true) (hC : CallOk P call) {id : Nat} {ops : Array Oper} {draw : Bool} (hk : codeOk P tails (.region id ops draw) = true) {env env' : Env} {σ σ' : AS} {a : Act} {w : World} {ρ : Rho}
    (s : SR ρ σ w) (hE : ER ρ w env a.tmps) (hd : a.defers = []) (h : regionA P cx tails call id ops.toList draw env σ = some (env', σ')) {Q : Exit → Act → World → Prop}
    (hQ : ∀ a' w' ρ', Ext ρ w ρ' w' → SR ρ' σ' w' → ER ρ' w' env' a'.tmps → a'.defers = [] → Q .normal a' w') : (Code.region id ops draw).wp P Q a w := by
  unfold regionA at h
  cases draw with
  | false =>
    simp only [Bool.false_eq_true, if_false] at h
    exact wp_region_list (seqA_sound hC _ _ _ _ _ _ _ _ s hE hd h hQ)
  | true =>
    simp only [if_true] at h
    simp only [codeOk, Bool.not_true, Bool.false_or] at hk
    by_cases hbad : tails.contains (id + 1000000) = true
    · rw [if_pos hbad] at h; cases h
    rw [if_neg hbad] at h
    have hk : (if tails.contains (id + 2000000) = true then mixOk P ops else drawOk ops (quietN P (tails.contains id) ops.toList)) = true := by
      rcases Bool.or_eq_true _ _ ▸ hk with hk | hk
      · exact absurd hk hbad
      · exact hk
    by_cases hmix : tails.contains (id + 2000000) = true
    · rw [if_pos hmix] at h hk
      exact mixA_sound hm hC hk s hE hd h hQ
    rw [if_neg hmix] at h hk
    have hn : quietN P (tails.contains id) ops.toList ≤ ops.size := by have := quietN_le (P := P) (t := tails.contains id) (ops := ops.toList); simpa using this
    generalize quietN P (tails.contains id) ops.toList = n at h hk hn
    split at h
    · rename_i env1 ns nh hq
      split at h
      · obtain ⟨c1, c2, hrun⟩ := quietA_runS (ops := ops) (ops.toList.take n) 0 n env env1 [] ns [] nh (fun k hk' => by rw [List.getElem?_take, if_pos hk', Nat.zero_add]) (by simp; omega) (by omega) rfl rfl hq
        simp only [List.append_nil] at hrun
        refine wp_region_lex (qs P cx call σ ops) n (R := fun S a w' => RQ ρ { w with drawn := w.drawn + 1 } σ (ops.toList.all fun o => !escNew cx o) S a w') hm hk (fun i j oi oj _ _ hi hj hij hap s s1 s2 h1 h2 => qs_comm i j oi oj hi hj hij hap s s1 s2 h1 h2)
          (fun i s0 s1 a0 w0 _ hs hR K hK => qs_sound hC s.inv i s0 s1 a0 w0 hs hR K hK) hrun ?_ ?_
        · refine ⟨ρ, Ext.refl _ _, s.drew.reserve ⟨fun o ho => (List.mem_replicate.1 ho).2, fun o ho => (List.mem_replicate.1 ho).2⟩, hE.mono Ext.drew, hd, fun L ob hg => AS.get_more' hg, fun L hg _ => ?_, fun hall => ?_, by simp⟩
          · cases hr : ρ L with
            | none => rfl
            | some p => obtain ⟨ob, ho⟩ := s.dom L p hr; rw [hg] at ho; cases ho
          · have : cnt (newHp cx) ops.toList (0 + n) = 0 := by
              unfold cnt
              rw [List.length_eq_zero_iff, List.filter_eq_nil_iff]
              intro o ho
              rw [List.all_eq_true] at hall
              have := hall o (List.mem_of_mem_take ho)
              simp only [Bool.not_eq_true'] at this
              simp [newHp, this]
            rw [this]; simp
        · intro a1 w1 ⟨ρ1, x1, s1, hE1, hd1, _⟩
          exact seqA_sound hC _ _ _ _ _ _ _ _ s1 hE1 hd1 h fun a' w' ρ' x' s' hE' hd' => hQ a' w' ρ' ((Ext.drew.trans x1).trans x') s' hE' hd'
      · cases h
    · cases h

theorem regionA_beh (hC : CallOk P call) {id : Nat} {ops : List Oper} {draw : Bool} {env env' : Env} {σ σ' : AS} (h : regionA P cx tails call id ops draw env σ = some (env', σ')) (hh : cx.h ≤ σ.st.length) : Beh cx.h cx.ro σ σ' := by
  unfold regionA at h
  split at h
  · by_cases hbad : tails.contains (id + 1000000) = true
    · rw [if_pos hbad] at h; cases h
    rw [if_neg hbad] at h
    by_cases hmix : tails.contains (id + 2000000) = true
    · rw [if_pos hmix] at h
      exact mixA_beh hC h hh
    rw [if_neg hmix] at h
    split at h
    · rename_i env1 ns nh hq
      split at h
      · rename_i hro
        refine Beh.trans ?_ (seqA_beh hC _ _ _ _ _ h (by simp; omega))
        refine ⟨fun k hk hi i cs hik hg => ?_, fun k hr hk => ⟨?_, ?_⟩, by simp⟩
        · simp only at hg
          rw [List.getElem?_append_left (by omega)] at hg
          exact hi i cs hik hg
        · rw [hr] at hro
          simp only [Option.isNone_some, Bool.or_false, List.isEmpty_iff] at hro
          simp [hro]
        · simp only
          rw [List.take_append_of_le_length hk]
      · cases h
    · cases h
  · exact seqA_beh hC _ _ _ _ _ h hh
end
end Go.Abs
