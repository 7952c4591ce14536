/- Calls that write nothing, beside objects that are being made. -/
import Derived.Test.YtjhgheheopcolaaGreatAbs28
set_option linter.unusedVariables false
set_option linter.unusedSimpArgs false
namespace Go.Abs

/-- The same, under other places. -/
theorem VR.re {ρ ρ2 : Rho} {w : World} {h : Nat} (hL : ∀ L p, ρ L = some p → L.inb h = true → ρ2 L = some p) (hF : ∀ b, Free ρ b → Free ρ2 b) {a : AV} {v : Value} (x : VR ρ w a v) : a.inb h = true → VR ρ2 w a v := by
  induction x with
  | bool b => intro _; exact .bool b
  | int k n => intro _; exact .int k n
  | str s => intro _; exact .str s
  | nilp => intro _; exact .nilp
  | ptr L o p h hr => intro y; exact .ptr L o p (hL _ _ h y) hr
  | rptr cs o b o0 f hb hf h1 h2 h3 ih =>
    intro _
    exact .rptr cs o b o0 f hb (hF _ hf) h1 (fun j c hj => ih j c hj (AV.inb_mono (Nat.zero_le _) _ (cell_inb h3 hj))) h3
  | eptr L v i o p a h hr hv ha => intro y; exact .eptr L v i o p a (hL _ _ h y) hr hv ha
  | nils => intro _; exact .nils
  | sl full sz es a cap f hc hfull hp hok h1 h2 ih =>
    intro _
    refine .sl full sz es a cap f hc hfull (fun hne => ?_) hok h1 (fun i e j c hi hj => ih i e j c hi hj ?_)
    · obtain ⟨p1, p2, p3⟩ := hp hne; exact ⟨p1, p2, hF _ p3⟩
    · exact AV.inb_mono (Nat.zero_le _) _ (cell_inb (okE_inb (hok e (getElem?_mem' hi))) hj)
  | row L v off len p a cap h hr hv hl ha => intro y; exact .row L v off len p a cap (hL _ _ h y) hr hv hl ha
  | nilm => intro _; exact .nilm
  | map L p h hr => intro y; exact .map L p (hL _ _ h y) hr
  | fn f xs ys vs us l1 l2 h1 h2 ih1 ih2 =>
    intro y
    simp only [AV.inb, Bool.and_eq_true] at y
    exact .fn f xs ys vs us l1 l2 (fun i c v hc hv => ih1 i c v hc hv (cell_inb y.1 hc)) (fun i c v hc hv => ih2 i c v hc hv (cell_inb y.2 hc))
  | nilf => intro _; exact .nilf
  | iface t a v h ih => intro y; exact .iface t a v (ih (by simpa [AV.inb] using y))
  | nili => intro _; exact .nili
  | agg cs vs l h ih => intro y; simp only [AV.inb] at y; exact .agg cs vs l (fun i c v hc hv => ih i c v hc hv (cell_inb y hc))
  | tup cs vs l h ih => intro y; simp only [AV.inb] at y; exact .tup cs vs l (fun i c v hc hv => ih i c v hc hv (cell_inb y hc))

/-- What an object names lies below. -/
def obInb (h : Nat) : AObj → Prop
  | .cells cs => AVs.inb h cs = true
  | _ => True

theorem OR.re {ρ ρ2 : Rho} {w : World} {h : Nat} (hL : ∀ L p, ρ L = some p → L.inb h = true → ρ2 L = some p) (hF : ∀ b, Free ρ b → Free ρ2 b) {p : Place} {ob : AObj} (hi : obInb h ob) (x : OR ρ w p ob) : OR ρ2 w p ob := by
  cases ob with
  | cells cs =>
    obtain ⟨a, b, vs, E, hw, hl, hv⟩ := x
    exact ⟨a, b, vs, E, hw, hl, fun i c v hc hv' => (hv i c v hc hv').re hL hF (cell_inb hi hc)⟩
  | row es sz v fro =>
    obtain ⟨a1, a2, a3, a4, a5, a6, a7, a8, vs, E, fz, hw, hsz, hfz, hv⟩ := x
    exact ⟨a1, a2, a3, a4, a5, a6, a7, fun h => ⟨hF _ (a8 h).1, (a8 h).2⟩, vs, E, fz, hw, hsz, hfz, fun i e j c u he hc hu => (hv i e j c u he hc hu).re hL hF
      (AV.inb_mono (Nat.zero_le _) _ (cell_inb (okE_inb (a7 e (getElem?_mem' he))) hc))⟩
  | map es =>
    obtain ⟨a, b, arr, clock, hw, hl, hst, hv⟩ := x
    refine ⟨a, b, arr, clock, hw, hl, hst, fun i e m he hm => ?_⟩
    obtain ⟨i1, i2, v1, v2⟩ := hv i e m he hm
    exact ⟨i1, i2, v1.re hL hF (AV.inb_mono (Nat.zero_le _) _ i1), v2.re hL hF (AV.inb_mono (Nat.zero_le _) _ i2)⟩
  | iter m =>
    obtain ⟨a, b, i1, mb, since, last, hw, hv⟩ := x
    exact ⟨a, b, i1, mb, since, last, hw, hv.re hL hF (AV.inb_mono (Nat.zero_le _) _ i1)⟩
  | dead => exact x

theorem SR.obInb {ρ : Rho} {σ : AS} {w : World} (s : SR ρ σ w) {h : Nat} (hi : Inv h σ) {L : Loc} {ob : AObj} (hg : σ.get L = some ob) (hL : L.inb h = true) : obInb h ob := by
  cases ob with
  | cells cs =>
    cases L with
    | hp i => exact inb_zero (s.hin i cs hg)
    | st i => exact hi i cs (by simpa [Loc.inb] using hL) hg
  | _ => trivial

/-- The places below h; the blocks of the others are kept. -/
def Rho.hide (ρ : Rho) (h : Nat) : Rho := ⟨fun L => if L.inb h = true then ρ L else none, fun b => ρ.res b ∨ ∃ L p, ρ L = some p ∧ L.inb h = false ∧ p.live = true ∧ p.b = b⟩

theorem Rho.hide_some {ρ : Rho} {h : Nat} {L : Loc} {p : Place} (x : ρ.hide h L = some p) : L.inb h = true ∧ ρ L = some p := by
  unfold Rho.hide at x
  simp only at x
  split at x
  · exact ⟨by assumption, x⟩
  · cases x
theorem Rho.hide_of {ρ : Rho} {h : Nat} {L : Loc} {p : Place} (x : ρ L = some p) (i : L.inb h = true) : ρ.hide h L = some p := by simp [Rho.hide, i, x]
theorem Free.hide {ρ : Rho} {b h : Nat} (x : Free ρ b) : Free (ρ.hide h) b :=
  ⟨fun L p hp hl => x.1 L p (Rho.hide_some hp).2 hl, fun hr => by
    rcases hr with hr | ⟨L, p, h1, _, h3, h4⟩
    · exact x.2 hr
    · exact x.1 L p h1 h3 h4⟩

theorem SR.hide {ρ : Rho} {σ : AS} {w : World} {h : Nat} (s : SR ρ σ w) (hi : Inv h σ) : SR (ρ.hide h) (σ.cut h) w := by
  have hL : ∀ L p, ρ L = some p → L.inb h = true → ρ.hide h L = some p := fun L p h1 h2 => Rho.hide_of h1 h2
  have hF : ∀ b, Free ρ b → Free (ρ.hide h) b := fun b x => x.hide
  refine ⟨⟨fun L ob ho hnd => ?_⟩, fun L p hp => ?_, fun L L' p p' h1 h2 l1 l2 e => ?_, fun L p h1 l1 => ?_, fun i cs hc => ?_, fun L p h1 l1 hr => ?_, fun b hb => ?_⟩
  · rw [AS.get_cut] at ho
    split at ho
    · rename_i hLi
      obtain ⟨p, hp, hob⟩ := s.objD L ob ho hnd
      exact ⟨p, hL _ _ hp hLi, hob.re hL hF (s.obInb hi ho hLi)⟩
    · cases ho
  · obtain ⟨hLi, hp⟩ := Rho.hide_some hp
    obtain ⟨ob, hob⟩ := s.dom L p hp
    exact ⟨ob, by rw [AS.get_cut, if_pos hLi]; exact hob⟩
  · exact s.inj L L' p p' (Rho.hide_some h1).2 (Rho.hide_some h2).2 l1 l2 e
  · exact s.lt L p (Rho.hide_some h1).2 l1
  · rw [AS.get_cut] at hc
    exact s.hin i cs (by simpa [Loc.inb] using hc)
  · obtain ⟨i1, h1⟩ := Rho.hide_some h1
    rcases hr with hr | ⟨L', p', g1, g2, g3, g4⟩
    · exact s.nres L p h1 l1 hr
    · have := s.inj L' L p' p g1 h1 g3 l1 g4
      rw [this, i1] at g2
      cases g2
  · rcases hb with hb | ⟨L', p', g1, g2, g3, g4⟩
    · exact s.resl b hb
    · rw [← g4]; exact s.lt L' p' g1 g3

/-- Back from such a call. -/
def Rho.join (ρ ρ1 : Rho) (h : Nat) : Rho := ⟨fun L => if L.inb h = true then ρ1 L else ρ L, ρ.res⟩

theorem SR.join {ρ ρ1 : Rho} {σ σ1 : AS} {w w' : World} {h : Nat} (s : SR ρ σ w) (x : Ext (ρ.hide h) w ρ1 w') (s1 : SR ρ1 σ1 w') (hi1 : Inv h σ1) (hget : ∀ L, L.inb h = true → σ1.get L = σ.get L) :
    Ext ρ w (ρ.join ρ1 h) w' ∧ SR (ρ.join ρ1 h) σ w' ∧ ∀ c v, VR ρ1 w' c v → c.inb h = true → VR (ρ.join ρ1 h) w' c v := by
  have hin : ∀ L, L.inb h = true → ρ.join ρ1 h L = ρ1 L := fun L h => by simp [Rho.join, h]
  have hout : ∀ L, ¬ L.inb h = true → ρ.join ρ1 h L = ρ L := fun L h => by simp [Rho.join, h]
  have hres : ρ1.res = (ρ.hide h).res := x.res.1
  have hpend : ∀ L p, ¬ L.inb h = true → ρ L = some p → p.live = true → ρ1.res p.b := fun L p h1 h2 h3 => by rw [hres]; exact .inr ⟨L, p, h2, by simpa using h1, h3, rfl⟩
  have hF : ∀ b, Free ρ1 b → Free (ρ.join ρ1 h) b := fun b hf => ⟨fun L p hp hl => by
    by_cases hLi : L.inb h = true
    · rw [hin L hLi] at hp; exact hf.1 L p hp hl
    · rw [hout L hLi] at hp
      intro e
      exact hf.2 (e ▸ hpend L p hLi hp hl), fun hr => hf.2 (by rw [hres]; exact .inl hr)⟩
  have hL : ∀ L p, ρ1 L = some p → L.inb h = true → ρ.join ρ1 h L = some p := fun L p h1 h2 => by rw [hin L h2]; exact h1
  have hext : Ext ρ w (ρ.join ρ1 h) w' := by
    refine ⟨fun L p hp => ?_, fun b hb hf => ?_, ⟨rfl, fun b hb hr => x.res.2 b hb (.inl hr)⟩, x.size, x.os, x.tape, x.output⟩
    · by_cases hLi : L.inb h = true
      · obtain ⟨p', e, r⟩ := x.loc L p (Rho.hide_of hp hLi)
        exact ⟨p', hL L p' e hLi, r⟩
      · exact ⟨p, by rw [hout L hLi]; exact hp, rfl, Nat.le_refl _, fun _ => ⟨rfl, rfl, rfl, rfl⟩, fun _ => rfl⟩
    · obtain ⟨f1, f2⟩ := x.free b hb hf.hide
      exact ⟨hF b f1, f2⟩
  refine ⟨hext, ⟨⟨fun L ob ho hnd => ?_⟩, fun L p hp => ?_, fun L L' p p' h1 h2 l1 l2 e => ?_, fun L p h1 l1 => ?_, s.hin, fun L p h1 l1 hr => ?_, fun b hb => Nat.lt_of_lt_of_le (s.resl b hb) x.size⟩, fun c v hv hc => hv.re hL hF hc⟩
  · by_cases hLi : L.inb h = true
    · rw [← hget L hLi] at ho
      obtain ⟨p, hp, hob⟩ := s1.objD L ob ho hnd
      exact ⟨p, hL L p hp hLi, hob.re hL hF (s1.obInb hi1 ho hLi)⟩
    · obtain ⟨p, hp, hob⟩ := s.objD L ob ho hnd
      refine ⟨p, by rw [hout L hLi]; exact hp, hob.mono hext fun hl => ?_⟩
      exact x.res.2 p.b (s.lt L p hp hl) (.inr ⟨L, p, hp, by simpa using hLi, hl, rfl⟩)
  · by_cases hLi : L.inb h = true
    · rw [hin L hLi] at hp
      obtain ⟨ob, ho⟩ := s1.dom L p hp
      exact ⟨ob, by rw [← hget L hLi]; exact ho⟩
    · rw [hout L hLi] at hp
      exact s.dom L p hp
  · by_cases hLi : L.inb h = true
    · rw [hin L hLi] at h1
      by_cases hLi' : L'.inb h = true
      · rw [hin L' hLi'] at h2
        exact s1.inj L L' p p' h1 h2 l1 l2 e
      · rw [hout L' hLi'] at h2
        exact absurd (e ▸ hpend L' p' hLi' h2 l2) (s1.nres L p h1 l1)
    · rw [hout L hLi] at h1
      by_cases hLi' : L'.inb h = true
      · rw [hin L' hLi'] at h2
        exact absurd (e ▸ hpend L p hLi h1 l1) (s1.nres L' p' h2 l2)
      · rw [hout L' hLi'] at h2
        exact s.inj L L' p p' h1 h2 l1 l2 e
  · by_cases hLi : L.inb h = true
    · rw [hin L hLi] at h1; exact s1.lt L p h1 l1
    · rw [hout L hLi] at h1; exact Nat.lt_of_lt_of_le (s.lt L p h1 l1) x.size
  · by_cases hLi : L.inb h = true
    · rw [hin L hLi] at h1
      exact s1.nres L p h1 l1 (by rw [hres]; exact .inl hr)
    · rw [hout L hLi] at h1; exact s.nres L p h1 l1 hr

section
variable {P : Program} {cx : Cx} {call : Caller}

/-- What holds in the midst of such a region. -/
def RQ (ρ0 : Rho) (w0 : World) (σ : AS) (noesc : Bool) (S : Env × AS) (a : Act) (w : World) : Prop :=
  ∃ ρ, Ext ρ0 w0 ρ w ∧ SR ρ S.2 w ∧ ER ρ w S.1 a.tmps ∧ a.defers = [] ∧ (∀ L ob, σ.get L = some ob → S.2.get L = some ob) ∧ (∀ L, σ.get L = none → S.2.get L = some .dead → ρ L = none) ∧
    (noesc = true → S.2.hp = σ.hp) ∧ S.2.st.take σ.st.length = σ.st

theorem newLoc_none {σ : AS} {e : Bool} {k kh : Nat} : σ.get (newLoc σ e k kh) = none := by
  unfold newLoc
  cases e <;> simp [AS.get]

theorem qs_sound (hC : CallOk P call) {ρ0 : Rho} {w0 : World} {σ : AS} {ops : Array Oper} (hi : Inv σ.st.length σ) {Q : Exit → Act → World → Prop} (i : Nat) (s s' : Env × AS) (a : Act) (w : World) (h : qs P cx call σ ops i s = some s')
    (hR : RQ ρ0 w0 σ (ops.toList.all fun o => !escNew cx o) s a w) (K : Act → World → Prop) (hK : ∀ a' w', RQ ρ0 w0 σ (ops.toList.all fun o => !escNew cx o) s' a' w' → K a' w') : wpOp P ops Q i K a w := by
  obtain ⟨ρ, x, sr, hE, hd, hext, hdead, hnh, htk⟩ := hR
  unfold qs at h
  unfold wpOp
  cases ho : ops[i]? with
  | none => rw [ho] at h; cases h
  | some o =>
    rw [ho] at h
    simp only at h ⊢
    have hom : o ∈ ops.toList := by have : ops.toList[i]? = some o := by simpa using ho
                                    exact getElem?_mem' this
    have hdp : ∀ u, (a.put o.dst u).defers = [] := fun u => by cases hh : o.dst <;> simp [Act.put, hd]
    have hw := wantedA_eq hE ops o
    have hso : SRo ρ σ w := ⟨fun L ob hg hnd => sr.objD L ob (hext L ob hg) hnd⟩
    have keep : ∀ (c : AV) (u : Value), VR ρ w c u → RQ ρ0 w0 σ (ops.toList.all fun o => !escNew cx o) (putE s.1 o.dst c, s.2) (a.put o.dst u) w :=
      fun c u hv => ⟨ρ, x, sr, hE.put hv, hdp u, hext, hdead, hnh, htk⟩
    unfold qstep at h
    rw [← hw]
    by_cases hwt : wantedA ops.toList s.1 o = true
    · rw [if_pos hwt] at h ⊢
      refine .inl ?_
      by_cases hval : isVal P o = true
      · rw [if_pos hval] at h
        by_cases hopt : optsA s.1 o = true
        · rw [if_pos hopt] at h
          cases hv : valA P σ s.1 o with
          | none => rw [hv] at h; cases h
          | some v =>
            rw [hv] at h
            simp only [Option.some.injEq] at h
            subst h
            obtain ⟨u, h1, h2⟩ := valA_sound (P := P) hso hE hopt hv
            exact wp_value h1 (hK _ _ (keep v u h2))
        · rw [if_neg hopt] at h; cases h
      · rw [if_neg hval] at h
        by_cases hnew : isNew o = true
        · rw [if_pos hnew] at h
          cases hn : newA P cx σ s.1 (cnt (newSt cx) ops.toList i) (cnt (newHp cx) ops.toList i) o with
          | none => rw [hn] at h; cases h
          | some r =>
            obtain ⟨v, ob⟩ := r
            rw [hn] at h
            simp only at h
            split at h
            · rename_i hg
              simp only [Option.some.injEq] at h
              subst h
              obtain ⟨m, hm, ⟨u, w', p, n1, n2, n3, n4, n5, n6, n7, n8, n9⟩, hin, hnd, hro, _⟩ := newA_sound (P := P) hE hn
              have hL0 : ρ (slot cx σ ops i o) = none := hdead _ newLoc_none hg
              obtain ⟨s2, x2⟩ := sr.fill hg hL0 n2 n3 n4 n5 n6 n7 n8 (fun j cs e1 e2 => hin (by
                unfold slot newLoc at e1
                cases he : escNew cx o with
                | true => rfl
                | false => rw [he] at e1; cases e1) cs e2) (fun x' => (n9 _ x' (upd_same _ _ _)).1)
              have hvr := (n9 _ x2 (upd_same _ _ _)).2
              unfold Oper.wp
              rw [hm, Sem.run_bind, n1]
              refine hK _ _ ⟨_, x.trans x2, s2, (hE.mono x2).put hvr, hdp u, fun L ob' hgL => ?_, fun L hgL hdL => ?_, fun hne => ?_, ?_⟩
              · have hne : L ≠ slot cx σ ops i o := by
                  intro e
                  have : σ.get (slot cx σ ops i o) = none := newLoc_none
                  rw [e, this] at hgL
                  cases hgL
                rw [AS.get_set, if_neg hne]; exact hext L ob' hgL
              · rw [AS.get_set] at hdL
                split at hdL
                · rw [hg] at hdL
                  simp only [Option.isSome_some, if_true, Option.some.injEq] at hdL
                  exact absurd hdL hnd
                · rename_i hne
                  rw [upd_ne hne]; exact hdead L hgL hdL
              · have he : escNew cx o = false := by
                  rw [List.all_eq_true] at hne
                  simpa using hne o hom
                simp only [slot, newLoc, he, Bool.false_eq_true, if_false, AS.set]
                exact hnh hne
              · unfold slot newLoc
                cases he : escNew cx o with
                | true => simp only [if_true, AS.set]; exact htk
                | false =>
                  simp only [Bool.false_eq_true, if_false, AS.set]
                  rw [List.take_set_of_le (by omega)]
                  exact htk
            · cases h
        · rw [if_neg hnew] at h
          split at h
          · rename_i heq
            split at heq
            · rename_i f args ats hop
              split at heq
              · rename_i fv as hf has
                split at heq
                · rename_i g gs hcal
                  split at heq
                  · rename_i hcond
                    obtain ⟨hinb, hne⟩ := hcond
                    split at heq
                    · rename_i cv σ1 hcall
                      split at heq
                      · rename_i hvin
                        cases heq
                        simp only [Option.some.injEq] at h
                        subst h
                        have hcut : s.2.cut σ.st.length = σ := by
                          have e1 := hnh hne
                          show AS.mk s.2.hp (s.2.st.take σ.st.length) = σ
                          rw [e1, htk]
                        have hinv : Inv σ.st.length s.2 := fun j cs hj hg => by
                          have : σ.st[j]? = some (.cells cs) := by
                            rw [← htk, List.getElem?_take, if_pos hj]; exact hg
                          exact hi j cs hj this
                        have hsc := sr.hide hinv
                        rw [hcut] at hsc
                        have hLh : ∀ L p, ρ L = some p → L.inb σ.st.length = true → ρ.hide σ.st.length L = some p := fun L p h1 h2 => Rho.hide_of h1 h2
                        obtain ⟨fn, f1, f2, f3⟩ := hC.ent _ _ _ _ _ hcall
                        have hargs : (args.map a.eval) = (args.toList.map a.eval).toArray := by apply Array.ext'; simp
                        obtain ⟨vs, hvs, hrun⟩ := callee_run (P := P) hcal (ev_sound hE hf) (evs_sound hE has) f1 f2 f3
                        have hvs' : VRs (ρ.hide σ.st.length) w gs vs := ⟨hvs.1, fun j c v hc hv => (hvs.2 j c v hc hv).re hLh (fun b x => x.hide) (cell_inb hinb hc)⟩
                        unfold Oper.wp
                        have : (execOp a.eval o) = (do let d ← Deferred.ofValue (a.eval f) (args.toList.map a.eval).toArray; invoke d.target d.args : Sem Next) := by
                          simp only [execOp, hop, resolve, hargs]
                        rw [this, hrun]
                        have hb := hC.beh _ _ _ _ _ _ hcall
                        obtain ⟨b1, b2⟩ := hb.ro _ rfl (Nat.le_refl _)
                        refine (hC.snd _ _ _ _ _ _ hcall (ρ.hide σ.st.length) w vs hsc hvs').mono fun e w' ⟨ρ1, u, he, x1, s1, v1⟩ => ?_
                        subst he
                        have hget : ∀ L, L.inb σ.st.length = true → σ1.get L = s.2.get L := fun L hLi => by
                          have e2 : s.2.get L = σ.get L := by
                            have := AS.get_cut (σ := s.2) (h := σ.st.length) (L := L)
                            rw [hcut, if_pos hLi] at this
                            exact this.symm
                          rw [e2]
                          cases L with
                          | hp j => simp only [AS.get, b1]
                          | st j =>
                            have hj : j < σ.st.length := by simpa [Loc.inb] using hLi
                            simp only [AS.get]
                            have : (σ1.st.take σ.st.length)[j]? = (σ.st.take σ.st.length)[j]? := by rw [b2]
                            simpa [List.getElem?_take, hj] using this
                        obtain ⟨j1, j2, j3⟩ := sr.join x1 s1 (hb.inv _ (Nat.le_refl _) hi) hget
                        refine hK _ _ ⟨_, x.trans j1, j2, (hE.mono j1).put (j3 _ _ v1 hvin), hdp u, hext, fun L hgL hdL => ?_, hnh, htk⟩
                        have hLi : ¬ L.inb σ.st.length = true := by
                          intro hLi
                          have := AS.get_cut (σ := s.2) (h := σ.st.length) (L := L)
                          rw [hcut, if_pos hLi, hgL, hdL] at this
                          cases this
                        simp only [Rho.join, hLi, if_false, Bool.false_eq_true]
                        exact hdead L hgL hdL
                      · cases heq
                    · cases heq
                  · cases heq
                · cases heq
              · cases heq
            · cases heq
          · rename_i heq
            exfalso
            split at heq
            · split at heq
              · split at heq
                · split at heq
                  · split at heq
                    · split at heq <;> cases heq
                    · cases heq
                  · cases heq
                · cases heq
              · cases heq
            · cases heq
          · cases h
    · rw [if_neg hwt] at h ⊢
      by_cases hnew : isNew o = true
      · rw [if_pos hnew] at h
        simp only at h
        split at h
        · rename_i hg
          simp only [Option.some.injEq] at h
          subst h
          refine hK _ _ ?_
          rw [AS.set_self hg]
          exact keep _ _ VR.undef
        · cases h
      · rw [if_neg hnew] at h
        simp only [Option.some.injEq] at h
        subst h
        exact hK _ _ (keep _ _ VR.undef)
end
end Go.Abs
