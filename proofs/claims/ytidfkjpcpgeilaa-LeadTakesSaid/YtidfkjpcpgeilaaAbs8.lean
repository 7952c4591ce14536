/- Part 8 of the abstract interpreter: its operations and what they say of a world, for any program and any world. -/
import Derived.Test.YtidfkjpcpgeilaaAbs7
import Derived.LoopN
set_option linter.unusedVariables false
set_option linter.unusedSimpArgs false
section
namespace Go.Abs
theorem VR.re {ρ ρ2 : Rho} {w : World} {h : Nat} (hL : ∀ L p, ρ L = some p → L.inb h = true → ρ2 L = some p) (hF : ∀ b, Free ρ b → Free ρ2 b) {a : AV} {v : Value} (x : VR ρ w a v) : a.inb h = true → VR ρ2 w a v := by
  induction x with
  | bool b => intro _; exact .bool b
  | int k n => intro _; exact .int k n
  | str s => intro _; exact .str s
  | nilp => intro _; exact .nilp
  | ptr L o p h hr => intro y; exact .ptr L o p (hL _ _ h y) hr
  | rptr cs o b o0 f hb hf h1 h2 h3 ih =>
    intro _
    exact .rptr cs o b o0 f hb (hF _ hf) h1 (fun j c hj => ih j c hj (AV.inb_mono (Nat.zero_le _) _ (cell_inb h3 hj))) h3
  | eptr L v i o p a h hr hv ha => intro y; exact .eptr L v i o p a (hL _ _ h y) hr hv ha
  | nils => intro _; exact .nils
  | sl full sz es a cap f hc hfull hp hok h1 h2 ih =>
    intro _
    refine .sl full sz es a cap f hc hfull (fun hne => ?_) hok h1 (fun i e j c hi hj => ih i e j c hi hj ?_)
    · obtain ⟨p1, p2, p3⟩ := hp hne; exact ⟨p1, p2, hF _ p3⟩
    · exact AV.inb_mono (Nat.zero_le _) _ (cell_inb (okE_inb (hok e (getElem?_mem' hi))) hj)
  | row L v off len p a cap h hr hv hl ha => intro y; exact .row L v off len p a cap (hL _ _ h y) hr hv hl ha
  | nilm => intro _; exact .nilm
  | map L p h hr => intro y; exact .map L p (hL _ _ h y) hr
  | fn f xs ys vs us l1 l2 h1 h2 ih1 ih2 =>
    intro y
    simp only [AV.inb, Bool.and_eq_true] at y
    exact .fn f xs ys vs us l1 l2 (fun i c v hc hv => ih1 i c v hc hv (cell_inb y.1 hc)) (fun i c v hc hv => ih2 i c v hc hv (cell_inb y.2 hc))
  | nilf => intro _; exact .nilf
  | iface t a v h ih => intro y; exact .iface t a v (ih (by simpa [AV.inb] using y))
  | nili => intro _; exact .nili
  | agg cs vs l h ih => intro y; simp only [AV.inb] at y; exact .agg cs vs l (fun i c v hc hv => ih i c v hc hv (cell_inb y hc))
  | tup cs vs l h ih => intro y; simp only [AV.inb] at y; exact .tup cs vs l (fun i c v hc hv => ih i c v hc hv (cell_inb y hc))
  | any a l c => intro _; exact .any a l c
def obInb (h : Nat) : AObj → Prop
  | .cells cs => AVs.inb h cs = true
  | _ => True
theorem OR.re {ρ ρ2 : Rho} {w : World} {h : Nat} (hL : ∀ L p, ρ L = some p → L.inb h = true → ρ2 L = some p) (hF : ∀ b, Free ρ b → Free ρ2 b) {p : Place} {ob : AObj} (hi : obInb h ob) (x : OR ρ w p ob) : OR ρ2 w p ob := by
  cases ob with
  | cells cs =>
    obtain ⟨a, b, vs, E, hw, hl, hv⟩ := x
    exact ⟨a, b, vs, E, hw, hl, fun i c v hc hv' => (hv i c v hc hv').re hL hF (cell_inb hi hc)⟩
  | row es sz v fro =>
    obtain ⟨a1, a2, a3, a4, a5, a6, a7, a8, vs, E, fz, hw, hsz, hfz, hv⟩ := x
    exact ⟨a1, a2, a3, a4, a5, a6, a7, fun h => ⟨hF _ (a8 h).1, (a8 h).2⟩, vs, E, fz, hw, hsz, hfz, fun i e j c u he hc hu => (hv i e j c u he hc hu).re hL hF
      (AV.inb_mono (Nat.zero_le _) _ (cell_inb (okE_inb (a7 e (getElem?_mem' he))) hc))⟩
  | map es =>
    obtain ⟨a, b, arr, clock, hw, hl, hst, hv⟩ := x
    refine ⟨a, b, arr, clock, hw, hl, hst, fun i e m he hm => ?_⟩
    obtain ⟨i1, i2, v1, v2⟩ := hv i e m he hm
    exact ⟨i1, i2, v1.re hL hF (AV.inb_mono (Nat.zero_le _) _ i1), v2.re hL hF (AV.inb_mono (Nat.zero_le _) _ i2)⟩
  | iter m =>
    obtain ⟨a, b, i1, mb, since, seen, last, hw, hv⟩ := x
    exact ⟨a, b, i1, mb, since, seen, last, hw, hv.re hL hF (AV.inb_mono (Nat.zero_le _) _ i1)⟩
  | dead => exact x
theorem SR.obInb {ρ : Rho} {σ : AS} {w : World} (s : SR ρ σ w) {h : Nat} (hi : Inv h σ) {L : Loc} {ob : AObj} (hg : σ.get L = some ob) (hL : L.inb h = true) : obInb h ob := by
  cases ob with
  | cells cs =>
    cases L with
    | hp i => exact inb_zero (s.hin i cs hg)
    | st i => exact hi i cs (by simpa [Loc.inb] using hL) hg
  | _ => trivial
def Rho.hide (ρ : Rho) (h : Nat) : Rho := ⟨fun L => if L.inb h = true then ρ L else none, fun b => ρ.res b ∨ ∃ L p, ρ L = some p ∧ L.inb h = false ∧ p.live = true ∧ p.b = b⟩
theorem Rho.hide_some {ρ : Rho} {h : Nat} {L : Loc} {p : Place} (x : ρ.hide h L = some p) : L.inb h = true ∧ ρ L = some p := by
  unfold Rho.hide at x
  simp only at x
  split at x
  · exact ⟨by assumption, x⟩
  · cases x
theorem Rho.hide_of {ρ : Rho} {h : Nat} {L : Loc} {p : Place} (x : ρ L = some p) (i : L.inb h = true) : ρ.hide h L = some p := by simp [Rho.hide, i, x]
theorem Free.hide {ρ : Rho} {b h : Nat} (x : Free ρ b) : Free (ρ.hide h) b :=
  ⟨fun L p hp hl => x.1 L p (Rho.hide_some hp).2 hl, fun hr => by
    rcases hr with hr | ⟨L, p, h1, _, h3, h4⟩
    · exact x.2 hr
    · exact x.1 L p h1 h3 h4⟩
theorem SR.hide {ρ : Rho} {σ : AS} {w : World} {h : Nat} (s : SR ρ σ w) (hi : Inv h σ) : SR (ρ.hide h) (σ.cut h) w := by
  have hL : ∀ L p, ρ L = some p → L.inb h = true → ρ.hide h L = some p := fun L p h1 h2 => Rho.hide_of h1 h2
  have hF : ∀ b, Free ρ b → Free (ρ.hide h) b := fun b x => x.hide
  refine ⟨⟨fun L ob ho hnd => ?_⟩, fun L p hp => ?_, fun L L' p p' h1 h2 l1 l2 e => ?_, fun L p h1 l1 => ?_, fun i cs hc => ?_, fun L p h1 l1 hr => ?_, fun b hb => ?_, fun x hx => ⟨(s.glb x hx).1, hF _ (s.glb x hx).2.1, (s.glb x hx).2.2⟩⟩
  · rw [AS.get_cut] at ho
    split at ho
    · rename_i hLi
      obtain ⟨p, hp, hob⟩ := s.objD L ob ho hnd
      exact ⟨p, hL _ _ hp hLi, hob.re hL hF (s.obInb hi ho hLi)⟩
    · cases ho
  · obtain ⟨hLi, hp⟩ := Rho.hide_some hp
    obtain ⟨ob, hob⟩ := s.dom L p hp
    exact ⟨ob, by rw [AS.get_cut, if_pos hLi]; exact hob⟩
  · exact s.inj L L' p p' (Rho.hide_some h1).2 (Rho.hide_some h2).2 l1 l2 e
  · exact s.lt L p (Rho.hide_some h1).2 l1
  · rw [AS.get_cut] at hc
    exact s.hin i cs (by simpa [Loc.inb] using hc)
  · obtain ⟨i1, h1⟩ := Rho.hide_some h1
    rcases hr with hr | ⟨L', p', g1, g2, g3, g4⟩
    · exact s.nres L p h1 l1 hr
    · have := s.inj L' L p' p g1 h1 g3 l1 g4
      rw [this, i1] at g2
      cases g2
  · rcases hb with hb | ⟨L', p', g1, g2, g3, g4⟩
    · exact s.resl b hb
    · rw [← g4]; exact s.lt L' p' g1 g3
def Rho.join (ρ ρ1 : Rho) (h : Nat) : Rho := ⟨fun L => if L.inb h = true then ρ1 L else ρ L, ρ.res⟩
theorem SR.join {ρ ρ1 : Rho} {σ σ1 : AS} {w w' : World} {h : Nat} (s : SR ρ σ w) (x : Ext (ρ.hide h) w ρ1 w') (s1 : SR ρ1 σ1 w') (hi1 : Inv h σ1) (hget : ∀ L, L.inb h = true → σ1.get L = σ.get L) :
    Ext ρ w (ρ.join ρ1 h) w' ∧ SR (ρ.join ρ1 h) σ w' ∧ ∀ c v, VR ρ1 w' c v → c.inb h = true → VR (ρ.join ρ1 h) w' c v := by
  have hin : ∀ L, L.inb h = true → ρ.join ρ1 h L = ρ1 L := fun L h => by simp [Rho.join, h]
  have hout : ∀ L, ¬ L.inb h = true → ρ.join ρ1 h L = ρ L := fun L h => by simp [Rho.join, h]
  have hres : ρ1.res = (ρ.hide h).res := x.res.1
  have hpend : ∀ L p, ¬ L.inb h = true → ρ L = some p → p.live = true → ρ1.res p.b := fun L p h1 h2 h3 => by rw [hres]; exact .inr ⟨L, p, h2, by simpa using h1, h3, rfl⟩
  have hF : ∀ b, Free ρ1 b → Free (ρ.join ρ1 h) b := fun b hf => ⟨fun L p hp hl => by
    by_cases hLi : L.inb h = true
    · rw [hin L hLi] at hp; exact hf.1 L p hp hl
    · rw [hout L hLi] at hp
      intro e
      exact hf.2 (e ▸ hpend L p hLi hp hl), fun hr => hf.2 (by rw [hres]; exact .inl hr)⟩
  have hL : ∀ L p, ρ1 L = some p → L.inb h = true → ρ.join ρ1 h L = some p := fun L p h1 h2 => by rw [hin L h2]; exact h1
  have hext : Ext ρ w (ρ.join ρ1 h) w' := by
    refine ⟨fun L p hp => ?_, fun b hb hf => ?_, ⟨rfl, fun b hb hr => x.res.2 b hb (.inl hr)⟩, x.size, x.os, x.tape, x.output⟩
    · by_cases hLi : L.inb h = true
      · obtain ⟨p', e, r⟩ := x.loc L p (Rho.hide_of hp hLi)
        exact ⟨p', hL L p' e hLi, r⟩
      · exact ⟨p, by rw [hout L hLi]; exact hp, rfl, Nat.le_refl _, fun _ => ⟨rfl, rfl, rfl, rfl⟩, fun _ => rfl⟩
    · obtain ⟨f1, f2⟩ := x.free b hb hf.hide
      exact ⟨hF b f1, f2⟩
  refine ⟨hext, ⟨⟨fun L ob ho hnd => ?_⟩, fun L p hp => ?_, fun L L' p p' h1 h2 l1 l2 e => ?_, fun L p h1 l1 => ?_, s.hin, fun L p h1 l1 hr => ?_, fun b hb => Nat.lt_of_lt_of_le (s.resl b hb) x.size, hext.glb s⟩, fun c v hv hc => hv.re hL hF hc⟩
  · by_cases hLi : L.inb h = true
    · rw [← hget L hLi] at ho
      obtain ⟨p, hp, hob⟩ := s1.objD L ob ho hnd
      exact ⟨p, hL L p hp hLi, hob.re hL hF (s1.obInb hi1 ho hLi)⟩
    · obtain ⟨p, hp, hob⟩ := s.objD L ob ho hnd
      refine ⟨p, by rw [hout L hLi]; exact hp, hob.mono hext fun hl => ?_⟩
      exact x.res.2 p.b (s.lt L p hp hl) (.inr ⟨L, p, hp, by simpa using hLi, hl, rfl⟩)
  · by_cases hLi : L.inb h = true
    · rw [hin L hLi] at hp
      obtain ⟨ob, ho⟩ := s1.dom L p hp
      exact ⟨ob, by rw [← hget L hLi]; exact ho⟩
    · rw [hout L hLi] at hp
      exact s.dom L p hp
  · by_cases hLi : L.inb h = true
    · rw [hin L hLi] at h1
      by_cases hLi' : L'.inb h = true
      · rw [hin L' hLi'] at h2
        exact s1.inj L L' p p' h1 h2 l1 l2 e
      · rw [hout L' hLi'] at h2
        exact absurd (e ▸ hpend L' p' hLi' h2 l2) (s1.nres L p h1 l1)
    · rw [hout L hLi] at h1
      by_cases hLi' : L'.inb h = true
      · rw [hin L' hLi'] at h2
        exact absurd (e ▸ hpend L p hLi h1 l1) (s1.nres L' p' h2 l2)
      · rw [hout L' hLi'] at h2
        exact s.inj L L' p p' h1 h2 l1 l2 e
  · by_cases hLi : L.inb h = true
    · rw [hin L hLi] at h1; exact s1.lt L p h1 l1
    · rw [hout L hLi] at h1; exact Nat.lt_of_lt_of_le (s.lt L p h1 l1) x.size
  · by_cases hLi : L.inb h = true
    · rw [hin L hLi] at h1
      exact s1.nres L p h1 l1 (by rw [hres]; exact .inl hr)
    · rw [hout L hLi] at h1; exact s.nres L p h1 l1 hr
section
variable {P : Program} {cx : Cx} {call : Caller}
def RQ (ρ0 : Rho) (w0 : World) (σ : AS) (noesc : Bool) (S : Env × AS) (a : Act) (w : World) : Prop :=
  ∃ ρ, Ext ρ0 w0 ρ w ∧ SR ρ S.2 w ∧ ER ρ w S.1 a.tmps ∧ a.defers = [] ∧ (∀ L ob, σ.get L = some ob → S.2.get L = some ob) ∧ (∀ L, σ.get L = none → S.2.get L = some .dead → ρ L = none) ∧
    (noesc = true → S.2.hp = σ.hp) ∧ S.2.st.take σ.st.length = σ.st
theorem newLoc_none {σ : AS} {e : Bool} {k kh : Nat} : σ.get (newLoc σ e k kh) = none := by
  unfold newLoc
  cases e <;> simp [AS.get]
theorem qs_sound (hC : CallOk P call) {ρ0 : Rho} {w0 : World} {σ : AS} {ops : Array Oper} (hi : Inv σ.st.length σ) {Q : Exit → Act → World → Prop} (i : Nat) (s s' : Env × AS) (a : Act) (w : World) (h : qs P cx call σ ops i s = some s')
    (hR : RQ ρ0 w0 σ (ops.toList.all fun o => !escNew cx o) s a w) (K : Act → World → Prop) (hK : ∀ a' w', RQ ρ0 w0 σ (ops.toList.all fun o => !escNew cx o) s' a' w' → K a' w') : wpOp P ops Q i K a w := by
  obtain ⟨ρ, x, sr, hE, hd, hext, hdead, hnh, htk⟩ := hR
  unfold qs at h
  unfold wpOp
  cases ho : ops[i]? with
  | none => rw [ho] at h; cases h
  | some o =>
    rw [ho] at h
    simp only at h ⊢
    have hom : o ∈ ops.toList := by have : ops.toList[i]? = some o := by simpa using ho
                                    exact getElem?_mem' this
    have hdp : ∀ u, (a.put o.dst u).defers = [] := fun u => by cases hh : o.dst <;> simp [Act.put, hd]
    have hw := wantedA_eq hE ops o
    have hso : SRo ρ σ w := ⟨fun L ob hg hnd => sr.objD L ob (hext L ob hg) hnd⟩
    have keep : ∀ (c : AV) (u : Value), VR ρ w c u → RQ ρ0 w0 σ (ops.toList.all fun o => !escNew cx o) (putE s.1 o.dst c, s.2) (a.put o.dst u) w :=
      fun c u hv => ⟨ρ, x, sr, hE.put hv, hdp u, hext, hdead, hnh, htk⟩
    unfold qstep at h
    rw [← hw]
    by_cases hwt : wantedA ops.toList s.1 o = true
    · rw [if_pos hwt] at h ⊢
      refine .inl ?_
      by_cases hval : isVal P o = true
      · rw [if_pos hval] at h
        by_cases hopt : optsA s.1 o = true
        · rw [if_pos hopt] at h
          cases hv : valA P σ s.1 o with
          | none => rw [hv] at h; cases h
          | some v =>
            rw [hv] at h
            simp only [Option.some.injEq] at h
            subst h
            obtain ⟨u, h1, h2⟩ := valA_sound (P := P) hso hE hopt hv
            exact wp_value h1 (hK _ _ (keep v u h2))
        · rw [if_neg hopt] at h; cases h
      · rw [if_neg hval] at h
        by_cases hnew : isNew o = true
        · rw [if_pos hnew] at h
          cases hn : newA P cx σ s.1 (cnt (newSt cx) ops.toList i) (cnt (newHp cx) ops.toList i) o with
          | none => rw [hn] at h; cases h
          | some r =>
            obtain ⟨v, ob⟩ := r
            rw [hn] at h
            simp only at h
            split at h
            · rename_i hg
              simp only [Option.some.injEq] at h
              subst h
              obtain ⟨m, hm, ⟨u, w', p, n1, n2, n3, n4, n5, n6, n7, n8, n9⟩, hin, hnd, hro, _⟩ := newA_sound (P := P) hE hn
              have hL0 : ρ (slot cx σ ops i o) = none := hdead _ newLoc_none hg
              obtain ⟨s2, x2⟩ := sr.fill hg hL0 n2 n3 n4 n5 n6 n7 n8 (fun j cs e1 e2 => hin (by
                unfold slot newLoc at e1
                cases he : escNew cx o with
                | true => rfl
                | false => rw [he] at e1; cases e1) cs e2) (fun x' => (n9 _ x' (upd_same _ _ _)).1)
              have hvr := (n9 _ x2 (upd_same _ _ _)).2
              unfold Oper.wp
              rw [hm, Sem.run_bind, n1]
              refine hK _ _ ⟨_, x.trans x2, s2, (hE.mono x2).put hvr, hdp u, fun L ob' hgL => ?_, fun L hgL hdL => ?_, fun hne => ?_, ?_⟩
              · have hne : L ≠ slot cx σ ops i o := by
                  intro e
                  have : σ.get (slot cx σ ops i o) = none := newLoc_none
                  rw [e, this] at hgL
                  cases hgL
                rw [AS.get_set, if_neg hne]; exact hext L ob' hgL
              · rw [AS.get_set] at hdL
                split at hdL
                · rw [hg] at hdL
                  simp only [Option.isSome_some, if_true, Option.some.injEq] at hdL
                  exact absurd hdL hnd
                · rename_i hne
                  rw [upd_ne hne]; exact hdead L hgL hdL
              · have he : escNew cx o = false := by
                  rw [List.all_eq_true] at hne
                  simpa using hne o hom
                simp only [slot, newLoc, he, Bool.false_eq_true, if_false, AS.set]
                exact hnh hne
              · unfold slot newLoc
                cases he : escNew cx o with
                | true => simp only [if_true, AS.set]; exact htk
                | false =>
                  simp only [Bool.false_eq_true, if_false, AS.set]
                  rw [List.take_set_of_le (by omega)]
                  exact htk
            · cases h
        · rw [if_neg hnew] at h
          split at h
          · rename_i heq
            split at heq
            · rename_i f args ats hop
              split at heq
              · rename_i fv as hf has
                split at heq
                · rename_i g gs hcal
                  split at heq
                  · rename_i hcond
                    obtain ⟨hinb, hne⟩ := hcond
                    split at heq
                    · rename_i cv σ1 hcall
                      split at heq
                      · rename_i hvin
                        cases heq
                        simp only [Option.some.injEq] at h
                        subst h
                        have hcut : s.2.cut σ.st.length = σ := by
                          have e1 := hnh hne
                          show AS.mk s.2.hp (s.2.st.take σ.st.length) = σ
                          rw [e1, htk]
                        have hinv : Inv σ.st.length s.2 := fun j cs hj hg => by
                          have : σ.st[j]? = some (.cells cs) := by
                            rw [← htk, List.getElem?_take, if_pos hj]; exact hg
                          exact hi j cs hj this
                        have hsc := sr.hide hinv
                        rw [hcut] at hsc
                        have hLh : ∀ L p, ρ L = some p → L.inb σ.st.length = true → ρ.hide σ.st.length L = some p := fun L p h1 h2 => Rho.hide_of h1 h2
                        obtain ⟨fn, f1, f2, f3⟩ := hC.ent _ _ _ _ _ hcall
                        have hargs : (args.map a.eval) = (args.toList.map a.eval).toArray := by apply Array.ext'; simp
                        obtain ⟨vs, hvs, hrun⟩ := callee_run (P := P) hcal (ev_sound hE hf) (evs_sound hE has) f1 f2 f3
                        have hvs' : VRs (ρ.hide σ.st.length) w gs vs := ⟨hvs.1, fun j c v hc hv => (hvs.2 j c v hc hv).re hLh (fun b x => x.hide) (cell_inb hinb hc)⟩
                        unfold Oper.wp
                        have : (execOp a.eval o) = (do let d ← Deferred.ofValue (a.eval f) (args.toList.map a.eval).toArray; invoke d.target d.args : Sem Next) := by
                          simp only [execOp, hop, resolve, hargs]
                        rw [this, hrun]
                        have hb := hC.beh _ _ _ _ _ _ hcall
                        obtain ⟨b1, b2⟩ := hb.ro _ rfl (Nat.le_refl _)
                        refine (hC.snd _ _ _ _ _ _ hcall (ρ.hide σ.st.length) w vs hsc hvs').mono fun e w' ⟨ρ1, u, he, x1, s1, v1⟩ => ?_
                        subst he
                        have hget : ∀ L, L.inb σ.st.length = true → σ1.get L = s.2.get L := fun L hLi => by
                          have e2 : s.2.get L = σ.get L := by
                            have := AS.get_cut (σ := s.2) (h := σ.st.length) (L := L)
                            rw [hcut, if_pos hLi] at this
                            exact this.symm
                          rw [e2]
                          cases L with
                          | hp j => simp only [AS.get, b1]
                          | st j =>
                            have hj : j < σ.st.length := by simpa [Loc.inb] using hLi
                            simp only [AS.get]
                            have : (σ1.st.take σ.st.length)[j]? = (σ.st.take σ.st.length)[j]? := by rw [b2]
                            simpa [List.getElem?_take, hj] using this
                        obtain ⟨j1, j2, j3⟩ := sr.join x1 s1 (hb.inv _ (Nat.le_refl _) hi) hget
                        refine hK _ _ ⟨_, x.trans j1, j2, (hE.mono j1).put (j3 _ _ v1 hvin), hdp u, hext, fun L hgL hdL => ?_, hnh, htk⟩
                        have hLi : ¬ L.inb σ.st.length = true := by
                          intro hLi
                          have := AS.get_cut (σ := s.2) (h := σ.st.length) (L := L)
                          rw [hcut, if_pos hLi, hgL, hdL] at this
                          cases this
                        simp only [Rho.join, hLi, if_false, Bool.false_eq_true]
                        exact hdead L hgL hdL
                      · cases heq
                    · cases heq
                  · cases heq
                · cases heq
              · cases heq
            · cases heq
          · rename_i heq
            exfalso
            split at heq
            · split at heq
              · split at heq
                · split at heq
                  · split at heq
                    · split at heq <;> cases heq
                    · cases heq
                  · cases heq
                · cases heq
              · cases heq
            · cases heq
          · cases h
    · rw [if_neg hwt] at h ⊢
      by_cases hnew : isNew o = true
      · rw [if_pos hnew] at h
        simp only at h
        split at h
        · rename_i hg
          simp only [Option.some.injEq] at h
          subst h
          refine hK _ _ ?_
          rw [AS.set_self hg]
          exact keep _ _ VR.undef
        · cases h
      · rw [if_neg hnew] at h
        simp only [Option.some.injEq] at h
        subst h
        exact hK _ _ (keep _ _ VR.undef)
end
end Go.Abs
end
section
namespace Go.Abs
theorem AS.get_more {σ : AS} {nh ns : List AObj} (hd : (∀ o ∈ nh, o = .dead) ∧ ∀ o ∈ ns, o = .dead) {L : Loc} {ob : AObj} (h : (AS.mk (σ.hp ++ nh) (σ.st ++ ns)).get L = some ob) : σ.get L = some ob ∨ (σ.get L = none ∧ ob = .dead) := by
  cases L with
  | hp i =>
    simp only [AS.get] at h ⊢
    rcases Nat.lt_or_ge i σ.hp.length with hi | hi
    · rw [List.getElem?_append_left hi] at h; exact .inl h
    · rw [List.getElem?_append_right hi] at h
      exact .inr ⟨List.getElem?_eq_none hi, hd.1 _ (getElem?_mem' h)⟩
  | st i =>
    simp only [AS.get] at h ⊢
    rcases Nat.lt_or_ge i σ.st.length with hi | hi
    · rw [List.getElem?_append_left hi] at h; exact .inl h
    · rw [List.getElem?_append_right hi] at h
      exact .inr ⟨List.getElem?_eq_none hi, hd.2 _ (getElem?_mem' h)⟩
theorem AS.get_more' {σ : AS} {nh ns : List AObj} {L : Loc} {ob : AObj} (h : σ.get L = some ob) : (AS.mk (σ.hp ++ nh) (σ.st ++ ns)).get L = some ob := by
  cases L with
  | hp i => simp only [AS.get] at h ⊢; rw [List.getElem?_append_left (List.getElem?_eq_some_iff.1 h).1]; exact h
  | st i => simp only [AS.get] at h ⊢; rw [List.getElem?_append_left (List.getElem?_eq_some_iff.1 h).1]; exact h
theorem SR.reserve {ρ : Rho} {σ : AS} {w : World} (s : SR ρ σ w) {nh ns : List AObj} (hd : (∀ o ∈ nh, o = .dead) ∧ ∀ o ∈ ns, o = .dead) : SR ρ (AS.mk (σ.hp ++ nh) (σ.st ++ ns)) w := by
  refine ⟨⟨fun L ob ho hnd => ?_⟩, fun L p hp => ?_, s.inj, s.lt, fun i cs hc => ?_, s.nres, s.resl, s.glb⟩
  · rcases AS.get_more hd ho with h | ⟨_, h⟩
    · exact s.objD L ob h hnd
    · exact absurd h hnd
  · obtain ⟨ob, ho⟩ := s.dom L p hp
    exact ⟨ob, AS.get_more' ho⟩
  · rcases AS.get_more hd hc with h | ⟨_, h⟩
    · exact s.hin i cs h
    · cases h
section
variable {P : Program} {cx : Cx} {call : Caller}
theorem SR.joinW {ρ ρ1 : Rho} {σ σ1 : AS} {w w' : World} {h : Nat} (s : SR ρ σ w) (x : Ext (ρ.hide h) w ρ1 w') (s1 : SR ρ1 σ1 w') (hi1 : Inv h σ1) (hlen : σ1.st.length = h) :
    Ext ρ w (ρ.join ρ1 h) w' ∧ SR (ρ.join ρ1 h) { hp := σ1.hp, st := σ1.st ++ σ.st.drop h } w' ∧ ∀ c v, VR ρ1 w' c v → c.inb h = true → VR (ρ.join ρ1 h) w' c v := by
  have hin : ∀ L, L.inb h = true → ρ.join ρ1 h L = ρ1 L := fun L h => by simp [Rho.join, h]
  have hout : ∀ L, ¬ L.inb h = true → ρ.join ρ1 h L = ρ L := fun L h => by simp [Rho.join, h]
  have gin : ∀ L, L.inb h = true → ({ hp := σ1.hp, st := σ1.st ++ σ.st.drop h } : AS).get L = σ1.get L := fun L hL => by
    cases L with
    | hp j => rfl
    | st j =>
      have hj : j < h := by simpa [Loc.inb] using hL
      simp only [AS.get]
      rw [List.getElem?_append_left (by omega)]
  have gout : ∀ L, ¬ L.inb h = true → ({ hp := σ1.hp, st := σ1.st ++ σ.st.drop h } : AS).get L = σ.get L := fun L hL => by
    cases L with
    | hp j => exact absurd rfl hL
    | st j =>
      have hj : h ≤ j := by simpa [Loc.inb] using hL
      simp only [AS.get]
      rw [List.getElem?_append_right (by omega), List.getElem?_drop]
      congr 1
      omega
  have hres : ρ1.res = (ρ.hide h).res := x.res.1
  have hpend : ∀ L p, ¬ L.inb h = true → ρ L = some p → p.live = true → ρ1.res p.b := fun L p h1 h2 h3 => by rw [hres]; exact .inr ⟨L, p, h2, by simpa using h1, h3, rfl⟩
  have hF : ∀ b, Free ρ1 b → Free (ρ.join ρ1 h) b := fun b hf => ⟨fun L p hp hl => by
    by_cases hLi : L.inb h = true
    · rw [hin L hLi] at hp; exact hf.1 L p hp hl
    · rw [hout L hLi] at hp
      intro e
      exact hf.2 (e ▸ hpend L p hLi hp hl), fun hr => hf.2 (by rw [hres]; exact .inl hr)⟩
  have hL : ∀ L p, ρ1 L = some p → L.inb h = true → ρ.join ρ1 h L = some p := fun L p h1 h2 => by rw [hin L h2]; exact h1
  have hext : Ext ρ w (ρ.join ρ1 h) w' := by
    refine ⟨fun L p hp => ?_, fun b hb hf => ?_, ⟨rfl, fun b hb hr => x.res.2 b hb (.inl hr)⟩, x.size, x.os, x.tape, x.output⟩
    · by_cases hLi : L.inb h = true
      · obtain ⟨p', e, r⟩ := x.loc L p (Rho.hide_of hp hLi)
        exact ⟨p', hL L p' e hLi, r⟩
      · exact ⟨p, by rw [hout L hLi]; exact hp, rfl, Nat.le_refl _, fun _ => ⟨rfl, rfl, rfl, rfl⟩, fun _ => rfl⟩
    · obtain ⟨f1, f2⟩ := x.free b hb hf.hide
      exact ⟨hF b f1, f2⟩
  refine ⟨hext, ⟨⟨fun L ob ho hnd => ?_⟩, fun L p hp => ?_, fun L L' p p' h1 h2 l1 l2 e => ?_, fun L p h1 l1 => ?_, fun i cs hc => s1.hin i cs hc, fun L p h1 l1 hr => ?_, fun b hb => Nat.lt_of_lt_of_le (s.resl b hb) x.size, hext.glb s⟩, fun c v hv hc => hv.re hL hF hc⟩
  · by_cases hLi : L.inb h = true
    · rw [gin L hLi] at ho
      obtain ⟨p, hp, hob⟩ := s1.objD L ob ho hnd
      exact ⟨p, hL L p hp hLi, hob.re hL hF (s1.obInb hi1 ho hLi)⟩
    · rw [gout L hLi] at ho
      obtain ⟨p, hp, hob⟩ := s.objD L ob ho hnd
      refine ⟨p, by rw [hout L hLi]; exact hp, hob.mono hext fun hl => ?_⟩
      exact x.res.2 p.b (s.lt L p hp hl) (.inr ⟨L, p, hp, by simpa using hLi, hl, rfl⟩)
  · by_cases hLi : L.inb h = true
    · rw [hin L hLi] at hp
      obtain ⟨ob, ho⟩ := s1.dom L p hp
      exact ⟨ob, by rw [gin L hLi]; exact ho⟩
    · rw [hout L hLi] at hp
      rw [gout L hLi]
      exact s.dom L p hp
  · by_cases hLi : L.inb h = true
    · rw [hin L hLi] at h1
      by_cases hLi' : L'.inb h = true
      · rw [hin L' hLi'] at h2
        exact s1.inj L L' p p' h1 h2 l1 l2 e
      · rw [hout L' hLi'] at h2
        exact absurd (e ▸ hpend L' p' hLi' h2 l2) (s1.nres L p h1 l1)
    · rw [hout L hLi] at h1
      by_cases hLi' : L'.inb h = true
      · rw [hin L' hLi'] at h2
        exact absurd (e ▸ hpend L p hLi h1 l1) (s1.nres L' p' h2 l2)
      · rw [hout L' hLi'] at h2
        exact s.inj L L' p p' h1 h2 l1 l2 e
  · by_cases hLi : L.inb h = true
    · rw [hin L hLi] at h1; exact s1.lt L p h1 l1
    · rw [hout L hLi] at h1; exact Nat.lt_of_lt_of_le (s.lt L p h1 l1) x.size
  · by_cases hLi : L.inb h = true
    · rw [hin L hLi] at h1
      exact s1.nres L p h1 l1 (by rw [hres]; exact .inl hr)
    · rw [hout L hLi] at h1; exact s.nres L p h1 l1 hr
def RM (P : Program) (cx : Cx) (ρ0 : Rho) (w0 : World) (σ0 : AS) (ops : List Oper) (S : Env × AS × Nat) (a : Act) (w : World) : Prop :=
  ∃ ρ, Ext ρ0 w0 ρ w ∧ SR ρ S.2.1 w ∧ ER ρ w S.1 a.tmps ∧ a.defers = [] ∧
    (∀ i, kSt P cx ops S.2.2 S.2.1 ≤ i → S.2.1.get (.st i) = some .dead → ρ (.st i) = none) ∧ (∀ i, kHp P cx ops S.2.2 S.2.1 ≤ i → S.2.1.get (.hp i) = some .dead → ρ (.hp i) = none) ∧
    (S.2.2 = 0 → Inv σ0.st.length S.2.1 ∧ σ0.st.length + cntM P ops (newSt cx) 0 ops.length ≤ S.2.1.st.length)
theorem SRo.trunc {ρ : Rho} {σ0 σ : AS} {w : World} (s : SRo ρ σ w) : SRo ρ (truncM σ0 σ) w := ⟨fun L ob hg hnd => by
  refine s.objD L ob ?_ hnd
  cases L with
  | st i =>
    simp only [truncM, AS.get, List.getElem?_take] at hg ⊢
    split at hg
    · exact hg
    · cases hg
  | hp i =>
    simp only [truncM, AS.get, List.getElem?_take] at hg ⊢
    split at hg
    · exact hg
    · cases hg⟩
theorem rvalM_key {ρ : Rho} {σ0 σ : AS} {w : World} (s : SRo ρ σ w) {env : Env} {ops : List Oper} {chk : Option Env} {i : Nat} {o : Oper} {v : AV}
    (h : rvalM P σ0 ops chk i o env σ = some v) : ∃ (σ' : AS), SRo ρ σ' w ∧ optsA env o = true ∧ valA P σ' env o = some v := by
  have hopt : optsA env o = true := by
    unfold rvalM at h
    split at h
    · assumption
    · cases h
  by_cases c0 : clsM P ops i o = 0
  · rw [rvalM_eq0 c0, if_pos hopt] at h
    have he : isEnv o = true := by
      unfold clsM at c0
      split at c0
      · split at c0
        · assumption
        · split at c0 <;> cases c0
      · split at c0
        · cases c0
        · split at c0 <;> cases c0
    exact ⟨σ, s, hopt, by rw [isEnv_val (σ' := σ0) he]; exact h⟩
  · by_cases c1 : clsM P ops i o = 1
    · rw [rvalM_eq1 c1, if_pos hopt] at h
      cases chk with
      | none => exact ⟨_, s.trunc, hopt, h⟩
      | some e =>
        dsimp only at h
        split at h
        · rename_i hag
          exact ⟨_, s.trunc, hopt, by rw [← (valA_congr (P := P) (agreeB_spec hag)).1]; exact h⟩
        · cases h
    · unfold rvalM at h
      rw [if_pos hopt] at h
      split at h
      · rename_i hc; exact absurd hc c0
      · rename_i hc; exact absurd hc c1
      · exact ⟨σ, s, hopt, h⟩
theorem cntM_zero {ops : List Oper} {p : Oper → Bool} {k n : Nat} (h : (ops.all fun o => !p o) = true) : cntM P ops p k n = 0 := by
  unfold cntM
  rw [List.length_eq_zero_iff, List.filter_eq_nil_iff]
  intro i _
  unfold atBlk
  cases ho : ops[i]? with
  | none => simp
  | some o =>
    rw [List.all_eq_true] at h
    have := h o (getElem?_mem' ho)
    simp only [Bool.not_eq_true'] at this
    simp [this]
theorem reserve_dead {ρ : Rho} {σ : AS} {w : World} (s : SR ρ σ w) {ops : List Oper} {k : Nat} : SR ρ (reserveM P cx ops k σ) w ∧
    (∀ i, kSt P cx ops k (reserveM P cx ops k σ) ≤ i → ρ (.st i) = none) ∧ (∀ i, kHp P cx ops k (reserveM P cx ops k σ) ≤ i → ρ (.hp i) = none) := by
  refine ⟨s.reserve ⟨fun o ho => (List.mem_replicate.1 ho).2, fun o ho => (List.mem_replicate.1 ho).2⟩, fun i hi => ?_, fun i hi => ?_⟩
  · cases hr : ρ (.st i) with
    | none => rfl
    | some p =>
      obtain ⟨ob, ho⟩ := s.dom _ p hr
      simp only [AS.get] at ho
      have := (List.getElem?_eq_some_iff.1 ho).1
      simp [kSt, reserveM] at hi
      omega
  · cases hr : ρ (.hp i) with
    | none => rfl
    | some p =>
      obtain ⟨ob, ho⟩ := s.dom _ p hr
      simp only [AS.get] at ho
      have := (List.getElem?_eq_some_iff.1 ho).1
      simp [kHp, reserveM] at hi
      omega
theorem ms_sound (hC : CallOk P call) {ρ0 : Rho} {w0 : World} {σ0 : AS} {ops : Array Oper} {chk : Option Env} {Q : Exit → Act → World → Prop} (i : Nat) (s s' : Env × AS × Nat) (a : Act) (w : World) (h : ms P cx call σ0 ops.toList false chk i s = some s')
    (hR : RM P cx ρ0 w0 σ0 ops.toList s a w) (K : Act → World → Prop) (hK : ∀ a' w', RM P cx ρ0 w0 σ0 ops.toList s' a' w' → K a' w') : wpOp P ops Q i K a w := by
  obtain ⟨env, σ, k⟩ := s
  obtain ⟨ρ, x, sr, hE, hd, hst, hhp, hz⟩ := hR
  simp only at sr hE hst hhp hz
  unfold ms at h
  unfold wpOp
  cases ho : ops[i]? with
  | none => rw [show ops.toList[i]? = none by simpa using ho] at h; cases h
  | some o =>
    rw [show ops.toList[i]? = some o by simpa using ho] at h
    simp only at h ⊢
    have hdp : ∀ u, (a.put o.dst u).defers = [] := fun u => by cases hh : o.dst <;> simp [Act.put, hd]
    rw [← wantedA_eq hE ops o]
    cases hm : mres P cx call σ0 ops.toList false chk i o env σ k with
    | none => rw [hm] at h; cases h
    | some r =>
      obtain ⟨v, σ1, k1⟩ := r
      rw [hm] at h
      cases h
      have keep : ∀ (c : AV) (u : Value), VR ρ w c u → RM P cx ρ0 w0 σ0 ops.toList (putE env o.dst c, σ, k) (a.put o.dst u) w := fun c u hv => ⟨ρ, x, sr, hE.put hv, hdp u, hst, hhp, hz⟩
      by_cases c3 : clsM P ops.toList i o = 3
      · obtain ⟨e1, bk, g2, g3, hm'⟩ := mres_new c3 hm
        subst e1
        rcases hm' with ⟨rfl, hw, rfl⟩ | ⟨ob, hw, hn, hg, rfl⟩
        · rw [if_neg (by rw [hw]; simp)]
          exact hK _ _ (keep _ _ VR.undef)
        · rw [if_pos hw]
          refine .inl ?_
          obtain ⟨m, hmo, ⟨u, w', p, n1, n2, n3, n4, n5, n6, n7, n8, n9⟩, hin, hnd, hro, _⟩ := newA_sound (P := P) hE hn
          have hkS : ∀ L ob, kSt P cx ops.toList k1 (σ.set L ob) = kSt P cx ops.toList k1 σ := fun L ob => by unfold kSt; rw [AS.set_len.1]
          have hkH : ∀ L ob, kHp P cx ops.toList k1 (σ.set L ob) = kHp P cx ops.toList k1 σ := fun L ob => by unfold kHp; rw [AS.set_len.2]
          have hoi : ops.toList[i]? = some o := by simpa using ho
          have hL0 : ρ (slotM P cx σ0 ops.toList i o σ k1) = none := by
            unfold slotM newLoc at hg ⊢
            cases he : escNew cx o with
            | true =>
              have hno : ¬ noHp cx ops.toList = true := fun hh => by rw [noHp_st hoi (cls3_new c3) hh] at he; cases he
              simp only [he, if_true, khM, if_neg hno] at hg ⊢
              refine hhp _ ?_ hg
              unfold kHp at *
              omega
            | false =>
              simp only [he, Bool.false_eq_true, if_false] at hg ⊢
              refine hst _ ?_ hg
              unfold kSt at *
              omega
          obtain ⟨s2, x2⟩ := sr.fill hg hL0 n2 n3 n4 n5 n6 n7 n8 (fun j cs e1 e2 => hin (by
            unfold slotM newLoc at e1
            cases he : escNew cx o with
            | true => rfl
            | false => rw [he] at e1; cases e1) cs e2) (fun x' => (n9 _ x' (upd_same _ _ _)).1)
          have hvr := (n9 _ x2 (upd_same _ _ _)).2
          unfold Oper.wp
          rw [hmo, Sem.run_bind, n1]
          refine hK _ _ ⟨_, x.trans x2, s2, (hE.mono x2).put hvr, hdp u, fun j hj hdj => ?_, fun j hj hdj => ?_, fun h0 => ⟨fun j cs hj hgj => ?_, by rw [AS.set_len.1]; exact (hz h0).2⟩⟩
          · rw [hkS] at hj
            rw [AS.get_set] at hdj
            split at hdj
            · rw [hg] at hdj
              simp only [Option.isSome_some, if_true, Option.some.injEq] at hdj
              exact absurd hdj hnd
            · rename_i hne
              rw [upd_ne hne]; exact hst j hj hdj
          · rw [hkH] at hj
            rw [AS.get_set] at hdj
            split at hdj
            · rw [hg] at hdj
              simp only [Option.isSome_some, if_true, Option.some.injEq] at hdj
              exact absurd hdj hnd
            · rename_i hne
              rw [upd_ne hne]; exact hhp j hj hdj
          · refine (hz h0).1 j cs hj ?_
            have hne : (Loc.st j) ≠ slotM P cx σ0 ops.toList i o σ k1 := by
              unfold slotM newLoc
              cases escNew cx o with
              | true => intro h; cases h
              | false =>
                intro h
                simp only [Bool.false_eq_true, if_false, Loc.st.injEq] at h
                omega
            have := AS.get_set (σ := σ) (L := slotM P cx σ0 ops.toList i o σ k1) (L' := .st j) (ob := ob)
            rw [if_neg hne] at this
            simp only [AS.get] at this
            rw [← this]
            exact hgj
      · by_cases c4 : clsM P ops.toList i o = 4
        · rw [mres_eq_T c4] at hm
          split at hm
          · by_cases hw : wantedA ops.toList env o = true
            · rw [if_pos hw] at hm ⊢
              refine .inl ?_
              cases he : effA P cx call σ env o with
              | none => rw [he] at hm; cases hm
              | some r2 =>
                obtain ⟨v2, σ2⟩ := r2
                rw [he] at hm
                simp only at hm
                split at hm
                · cases hm
                  refine effA_sound hC sr hE he fun u w' ρ' x' s' v' => ?_
                  obtain ⟨s3, d1, d2⟩ := reserve_dead (P := P) (cx := cx) s' (ops := ops.toList) (k := k + 1)
                  exact hK _ _ ⟨ρ', x.trans x', s3, (hE.mono x').put v', hdp u, fun j hj _ => d1 j hj, fun j hj _ => d2 j hj, fun h0 => by cases h0⟩
                · cases hm
            · rw [if_neg hw] at hm ⊢
              simp only at hm
              split at hm
              · cases hm
                obtain ⟨s3, d1, d2⟩ := reserve_dead (P := P) (cx := cx) sr (ops := ops.toList) (k := k + 1)
                exact hK _ _ ⟨ρ, x, s3, hE.put VR.undef, hdp undef, fun j hj _ => d1 j hj, fun j hj _ => d2 j hj, fun h0 => by cases h0⟩
              · cases hm
          · cases hm
        · by_cases c5 : clsM P ops.toList i o = 5
          · rw [mres_eq_C c5] at hm
            split at hm
            · rename_i hk0
              by_cases hw : wantedA ops.toList env o = true
              · rw [if_pos hw] at hm ⊢
                refine .inl ?_
                cases he : cutCall cx call σ0 ops.toList o env σ with
                | none => rw [he] at hm; cases hm
                | some r2 =>
                  obtain ⟨v2, σ2⟩ := r2
                  rw [he] at hm
                  simp only at hm
                  split at hm
                  · cases hm
                    obtain ⟨hno, l1, l2, l3, l4, l5⟩ := cutCall_spec he
                    unfold cutCall at he
                    split at he
                    · rename_i f args ats hop
                      split at he
                      · rename_i fv as hf has
                        split at he
                        · rename_i g gs hcal
                          split at he
                          · rename_i hc
                            split at he
                            · rename_i v1 σ3 hcall
                              split at he
                              · rename_i h2
                                cases he
                                have hsc := sr.hide (hz hk0).1
                                have hcut : σ.cut σ0.st.length = { hp := σ.hp, st := σ.st.take σ0.st.length } := rfl
                                rw [hcut] at hsc
                                have hLh : ∀ L p, ρ L = some p → L.inb σ0.st.length = true → ρ.hide σ0.st.length L = some p := fun L p h1 h2 => Rho.hide_of h1 h2
                                obtain ⟨fn, f1, f2, f3⟩ := hC.ent _ _ _ _ _ hcall
                                have hargs : (args.map a.eval) = (args.toList.map a.eval).toArray := by apply Array.ext'; simp
                                obtain ⟨vs, hvs, hrun⟩ := callee_run (P := P) hcal (ev_sound hE hf) (evs_sound hE has) f1 f2 f3
                                have hvs' : VRs (ρ.hide σ0.st.length) w gs vs := ⟨hvs.1, fun j c v hc' hv => (hvs.2 j c v hc' hv).re hLh (fun b x => x.hide) (cell_inb hc.1 hc')⟩
                                unfold Oper.wp
                                have : (execOp a.eval o) = (do let d ← Deferred.ofValue (a.eval f) (args.toList.map a.eval).toArray; invoke d.target d.args : Sem Next) := by
                                  simp only [execOp, hop, resolve, hargs]
                                rw [this, hrun]
                                have hb := hC.beh _ _ _ _ _ _ hcall
                                have hcl : ({ hp := σ.hp, st := σ.st.take σ0.st.length } : AS).st.length = σ0.st.length := by simp; omega
                                have hic : Inv σ0.st.length { hp := σ.hp, st := σ.st.take σ0.st.length } := fun j cs hj hg => (hz hk0).1 j cs hj (by simpa [List.getElem?_take, hj] using hg)
                                have hi3 : Inv σ0.st.length σ3 := hb.inv _ (Nat.le_of_eq hcl.symm) hic
                                refine (hC.snd _ _ _ _ _ _ hcall (ρ.hide σ0.st.length) w vs hsc hvs').mono fun e w' ⟨ρ1, u, he, x1, s1, v1'⟩ => ?_
                                subst he
                                obtain ⟨j1, j2, j3⟩ := sr.joinW x1 s1 hi3 h2.2.1
                                refine hK _ _ ⟨_, x.trans j1, j2, (hE.mono j1).put (j3 _ _ v1' h2.1), hdp u, fun j hj hdj => ?_, fun j hj hdj => ?_, fun _ => ⟨fun j cs hj hg => ?_, ?_⟩⟩
                                · have hlen2 : σ3.st.length + (σ.st.length - σ0.st.length) = σ.st.length := by omega
                                  have hjb : σ0.st.length ≤ j := by
                                    have := (hz hk0).2
                                    rw [hk0] at hj
                                    simp only [kSt, List.length_append, List.length_drop, hlen2] at hj
                                    omega
                                  have hLi : ¬ (Loc.st j).inb σ0.st.length = true := by simp [Loc.inb]; omega
                                  have hρ : (ρ.join ρ1 σ0.st.length) (.st j) = ρ (.st j) := by simp [Rho.join, hLi]
                                  rw [hρ]
                                  refine hst j ?_ ?_
                                  · simp only [kSt, List.length_append, List.length_drop, hlen2] at hj
                                    exact hj
                                  · simp only [AS.get] at hdj ⊢
                                    rw [List.getElem?_append_right (by omega), List.getElem?_drop] at hdj
                                    have : σ0.st.length + (j - σ3.st.length) = j := by omega
                                    rw [this] at hdj
                                    exact hdj
                                · exfalso
                                  have hcnt : cntM P ops.toList (newHp cx) k ops.toList.length = 0 := cntM_zero hno
                                  simp only [kHp, hcnt, Nat.sub_zero] at hj
                                  simp only [AS.get] at hdj
                                  have := (List.getElem?_eq_some_iff.1 hdj).1
                                  omega
                                · simp only at hg
                                  rw [List.getElem?_append_left (by omega)] at hg
                                  exact hi3 j cs hj hg
                                · have := (hz hk0).2
                                  simp only [List.length_append, List.length_drop]
                                  omega
                              · cases he
                            · cases he
                          · cases he
                        · cases he
                      · cases he
                    · cases he
                  · cases hm
              · rw [if_neg hw] at hm ⊢
                simp only at hm
                split at hm
                · cases hm
                  exact hK _ _ (keep _ _ VR.undef)
                · cases hm
            · cases hm
          rw [mres_eq_read c3 c4 c5] at hm
          by_cases hw : wantedA ops.toList env o = true
          · rw [if_pos hw] at hm ⊢
            refine .inl ?_
            cases hv : rvalM P σ0 ops.toList chk i o env σ with
            | none => rw [hv] at hm; cases hm
            | some v' =>
              rw [hv] at hm
              cases hm
              obtain ⟨σ', s', hopt, hva⟩ := rvalM_key (P := P) sr.toSRo hv
              obtain ⟨u, h1, h2⟩ := valA_sound (P := P) s' hE hopt hva
              exact wp_value h1 (hK _ _ (keep v u h2))
          · rw [if_neg hw] at hm ⊢
            cases hm
            exact hK _ _ (keep _ _ VR.undef)
end
section
variable {P : Program} {cx : Cx} {call : Caller}
theorem mixA_run {σ : AS} {ops : List Oper} {env env' : Env} {σ' : AS} (h : mixA P cx call σ ops env = some (env', σ')) : (noHp cx ops || cx.ro.isNone) = true ∧
    ∃ chk k', runS (ms P cx call σ ops false chk) ops.length 0 (env, reserveM P cx ops 0 σ, 0) = some (env', σ', k') := by
  unfold mixA at h
  split at h
  · rename_i hro
    refine ⟨hro, ?_⟩
    split at h
    · split at h
      · rename_i e _ _ _
        split at h
        · rename_i e1 s1 k1 hr
          cases h
          exact ⟨_, _, hr⟩
        · cases h
      · cases h
    · split at h
      · rename_i e1 s1 k1 hr
        cases h
        exact ⟨_, _, hr⟩
      · cases h
  · cases h
theorem mixA_sound (hm : P.follows .mixedOrders = true) (hC : CallOk P call) {id : Nat} {ops : Array Oper} (hk : mixOk P ops = true) {env env' : Env} {σ σ' : AS} {a : Act} {w : World} {ρ : Rho}
    (s : SR ρ σ w) (hE : ER ρ w env a.tmps) (hd : a.defers = []) (h : mixA P cx call σ ops.toList env = some (env', σ')) {Q : Exit → Act → World → Prop}
    (hQ : ∀ a' w' ρ', Ext ρ w ρ' w' → SR ρ' σ' w' → ER ρ' w' env' a'.tmps → a'.defers = [] → Q .normal a' w') : (Code.region id ops true).wp P Q a w := by
  obtain ⟨_, chk, k', hrun⟩ := mixA_run h
  obtain ⟨hback, hpair⟩ := mixOk_spec hk
  refine wp_region_mix (ms P cx call σ ops.toList false chk) (fun i j oi oj hi hj hij hl s s1 s2 h1 h2 => ms_comm i j oi oj hi hj hij (hpair i j oi oj hi hj hij hl).1 hl (hpair i j oi oj hi hj hij hl).2 s s1 s2 h1 h2)
    (R := fun S a w' => RM P cx ρ { w with drawn := w.drawn + 1 } σ ops.toList S a w') hm hback (fun i s0 s1 a0 w0 hs hR K hK => ms_sound hC i s0 s1 a0 w0 hs hR K hK) (by simpa using hrun) ?_ ?_
  · obtain ⟨s3, d1, d2⟩ := reserve_dead (P := P) (cx := cx) s.drew (ops := ops.toList) (k := 0)
    exact ⟨ρ, Ext.refl _ _, s3, hE.mono Ext.drew, hd, fun j hj _ => d1 j hj, fun j hj _ => d2 j hj, fun _ => ⟨fun j cs hj hg => s.inv j cs hj (by simp only [reserveM] at hg; rw [List.getElem?_append_left hj] at hg; exact hg), by simp [reserveM]⟩⟩
  · intro a1 w1 ⟨ρ1, x1, s1, hE1, hd1, _⟩
    exact hQ a1 w1 ρ1 (Ext.drew.trans x1) s1 hE1 hd1
theorem reserve_beh {ops : List Oper} (hro : (noHp cx ops || cx.ro.isNone) = true) {σ : AS} {k : Nat} (hh : cx.h ≤ σ.st.length) : Beh cx.h cx.ro σ (reserveM P cx ops k σ) := by
  refine ⟨fun n hn hi i cs hin hg => ?_, fun n hr hn => ⟨?_, ?_⟩, by simp [reserveM]⟩
  · simp only [reserveM] at hg
    rw [List.getElem?_append_left (by omega)] at hg
    exact hi i cs hin hg
  · rw [hr] at hro
    simp only [Option.isNone_some, Bool.or_false] at hro
    simp [reserveM, cntM_zero hro]
  · simp only [reserveM]
    rw [List.take_append_of_le_length hn]
theorem ms_beh (hC : CallOk P call) {σ0 : AS} {ops : List Oper} {chk : Option Env} (hro : (noHp cx ops || cx.ro.isNone) = true) (hh : cx.h ≤ σ0.st.length) {i : Nat} {s s' : Env × AS × Nat}
    (h : ms P cx call σ0 ops false chk i s = some s') (hb : Beh cx.h cx.ro σ0 s.2.1) : Beh cx.h cx.ro σ0 s'.2.1 := by
  obtain ⟨env, σ, k⟩ := s
  simp only at hb
  unfold ms at h
  cases ho : ops[i]? with
  | none => rw [ho] at h; cases h
  | some o =>
    rw [ho] at h
    simp only at h
    cases hm : mres P cx call σ0 ops false chk i o env σ k with
    | none => rw [hm] at h; cases h
    | some r =>
      obtain ⟨v, σ1, k1⟩ := r
      rw [hm] at h
      cases h
      have hlen := hb.len
      by_cases c3 : clsM P ops i o = 3
      · obtain ⟨e1, bk, g2, g3, hm'⟩ := mres_new c3 hm
        rcases hm' with ⟨rfl, _, _⟩ | ⟨ob, hw, hn, hg, rfl⟩
        · exact hb
        · cases he : escNew cx o with
          | true =>
            have hnone : cx.ro = none := by
              rw [Bool.or_eq_true, noHp, List.all_eq_true] at hro
              rcases hro with hro | hro
              · have := hro o (getElem?_mem' ho)
                simp [newHp, cls3_new c3, he] at this
              · simpa using hro
            refine ⟨fun n hn' hi j cs hj hg' => ?_, fun n hr => (by rw [hnone] at hr; cases hr), ?_⟩
            · simp only [slotM, newLoc, he, if_true, AS.set] at hg'
              exact hb.inv n hn' hi j cs hj hg'
            · simp only [slotM, newLoc, he, if_true, AS.set]; exact hlen
          | false =>
            refine ⟨fun n hn' hi j cs hj hg' => ?_, fun n hr hn' => ?_, ?_⟩
            · simp only [slotM, newLoc, he, Bool.false_eq_true, if_false, AS.set] at hg'
              rw [List.getElem?_set_ne (by omega)] at hg'
              exact hb.inv n hn' hi j cs hj hg'
            · obtain ⟨b1, b2⟩ := hb.ro n hr hn'
              simp only [slotM, newLoc, he, Bool.false_eq_true, if_false, AS.set]
              refine ⟨b1, ?_⟩
              rw [List.take_set_of_le (by omega)]
              exact b2
            · simp only [slotM, newLoc, he, Bool.false_eq_true, if_false, AS.set, List.length_set]; exact hlen
      · by_cases c4 : clsM P ops i o = 4
        · rw [mres_eq_T c4] at hm
          split at hm
          · by_cases hw : wantedA ops env o = true
            · rw [if_pos hw] at hm
              cases he : effA P cx call σ env o with
              | none => rw [he] at hm; cases hm
              | some r2 =>
                obtain ⟨v2, σ2⟩ := r2
                rw [he] at hm
                simp only at hm
                split at hm
                · cases hm
                  have b1 := effA_beh hC he (by omega)
                  have l1 := b1.len
                  exact (hb.trans b1).trans (reserve_beh hro (by omega))
                · cases hm
            · rw [if_neg hw] at hm
              simp only at hm
              split at hm
              · cases hm
                exact hb.trans (reserve_beh hro (by omega))
              · cases hm
          · cases hm
        · by_cases c5 : clsM P ops i o = 5
          · rw [mres_eq_C c5] at hm
            split at hm
            · by_cases hw : wantedA ops env o = true
              · rw [if_pos hw] at hm
                cases he : cutCall cx call σ0 ops o env σ with
                | none => rw [he] at hm; cases hm
                | some r2 =>
                  obtain ⟨v2, σ2⟩ := r2
                  rw [he] at hm
                  simp only at hm
                  split at hm
                  · cases hm
                    obtain ⟨_, l1, l2, l3, l4, l5⟩ := cutCall_spec he
                    unfold cutCall at he
                    split at he
                    · split at he
                      · split at he
                        · split at he
                          · split at he
                            · rename_i v1 σ3 hcall
                              split at he
                              · rename_i h2
                                cases he
                                have hcl : ({ hp := σ.hp, st := σ.st.take σ0.st.length } : AS).st.length = σ0.st.length := by simp; omega
                                have b1 := hC.beh _ _ _ _ _ _ hcall
                                have hl3 : σ3.st.length = σ0.st.length := h2.2.1
                                refine ⟨fun n hn hi j cs hj hg => ?_, fun n hr hn => ?_, by simp only [List.length_append, List.length_drop]; omega⟩
                                · simp only at hg
                                  rw [List.getElem?_append_left (by omega)] at hg
                                  refine b1.inv n (by omega) (fun j' cs' hj' hg' => ?_) j cs hj hg
                                  simp only [List.getElem?_take] at hg'
                                  split at hg'
                                  · exact hb.inv n hn hi j' cs' hj' hg'
                                  · cases hg'
                                · obtain ⟨d1, d2⟩ := hb.ro n hr hn
                                  obtain ⟨c1, c2⟩ := b1.ro n hr (by omega)
                                  refine ⟨c1.trans d1, ?_⟩
                                  simp only
                                  rw [List.take_append_of_le_length (by omega), c2]
                                  simp only [List.take_take]
                                  rw [Nat.min_eq_left hn]
                                  exact d2
                              · cases he
                            · cases he
                          · cases he
                        · cases he
                      · cases he
                    · cases he
                  · cases hm
              · rw [if_neg hw] at hm
                simp only at hm
                split at hm
                · cases hm
                  exact hb
                · cases hm
            · cases hm
          · obtain ⟨rfl, _, _⟩ := mres_read c3 c4 c5 hm
            exact hb
theorem runS_beh (hC : CallOk P call) {σ0 : AS} {ops : List Oper} {chk : Option Env} (hro : (noHp cx ops || cx.ro.isNone) = true) (hh : cx.h ≤ σ0.st.length) : ∀ (m i : Nat) (s s' : Env × AS × Nat),
    runS (ms P cx call σ0 ops false chk) m i s = some s' → Beh cx.h cx.ro σ0 s.2.1 → Beh cx.h cx.ro σ0 s'.2.1
  | 0, i, s, s', h, hb => by simp only [runS, Option.some.injEq] at h; subst h; exact hb
  | m + 1, i, s, s', h, hb => by
    simp only [runS] at h
    split at h
    · rename_i s1 h1
      exact runS_beh hC hro hh m (i + 1) s1 s' h (ms_beh hC hro hh h1 hb)
    · cases h
theorem mixA_beh (hC : CallOk P call) {ops : List Oper} {env env' : Env} {σ σ' : AS} (h : mixA P cx call σ ops env = some (env', σ')) (hh : cx.h ≤ σ.st.length) : Beh cx.h cx.ro σ σ' := by
  obtain ⟨hro, chk, k', hrun⟩ := mixA_run h
  exact runS_beh hC hro hh _ _ _ _ hrun (reserve_beh hro hh)
end
section
variable {P : Program} {cx : Cx} {call : Caller} {tails : List Nat}
def codeOk (P : Program) (tails : List Nat) : Code → Bool
  | .region id ops draw => !draw || tails.contains (id + 1000000) || (if tails.contains (id + 2000000) = true then mixOk P ops else drawOk ops (quietN P (tmode tails id) ops.toList))
  | .seq a b => codeOk P tails a && codeOk P tails b
  | .cond _ a b => codeOk P tails a && codeOk P tails b
  | .block _ c => codeOk P tails c
  | .loop c => codeOk P tails c
  | _ => true
theorem frzO_sound {ro : Option Nat} {L : Loc} {σ : AS} {w : World} {ρ : Rho} (s : SR ρ σ w) : ∃ ρ', Ext ρ w ρ' w ∧ SR ρ' (frzO ro σ L) w := by
  unfold frzO
  split
  · rename_i cs hg
    split
    · rename_i ds σ1 hz
      split
      · rename_i es hg1
        split
        · rename_i hc
          simp only [Bool.and_eq_true] at hc
          obtain ⟨p, hp, hl, hr, vs, E, hw, hlen, hv⟩ := s.obj L _ hg
          have hvs : VRs ρ w cs vs.toList := ⟨by simpa using hlen, fun i c v h1 h2 => hv i c v h1 (by simpa using h2)⟩
          obtain ⟨ρ1, x1, s1, v1⟩ := fzL_sound _ _ _ _ _ _ hz s hvs
          obtain ⟨q, hq, ql, qr, vs1, E1, qw, qlen, qv⟩ := s1.obj L _ hg1
          obtain ⟨q', hq', _, _, _, hb⟩ := x1.loc L p hp
          have e1 : q' = q := Option.some.inj (hq'.symm.trans hq)
          subst e1
          have e2 : q'.b = p.b := hb hr
          rw [e2, hw] at qw
          injection qw with qw
          injection qw with qw _ _
          subst qw
          have := s1.write (w' := w) (ob' := .cells ds) (p' := q') hq ql rfl (Nat.le_refl _) (fun _ => ⟨rfl, rfl, rfl, rfl⟩) (fun _ => rfl) (.inl rfl) (fun _ _ _ => rfl) (Nat.le_refl _) rfl rfl rfl
            (fun i cs' _ h2 => by cases h2; exact hc.2)
            (fun x => ⟨ql, qr, vs, E, by rw [e2]; exact hw, by simpa using v1.1, fun i c v h1 h2 => (v1.2 i c v h1 (by simpa using h2)).mono x⟩)
          exact ⟨_, x1.trans this.2, this.1⟩
        · exact ⟨ρ, Ext.refl _ _, s⟩
      · exact ⟨ρ, Ext.refl _ _, s⟩
    · exact ⟨ρ, Ext.refl _ _, s⟩
  · exact ⟨ρ, Ext.refl _ _, s⟩
theorem frzA_sound {P : Program} {ro : Option Nat} {env : Env} {w : World} : ∀ (os : List Oper) (σ : AS) (ρ : Rho), SR ρ σ w → ∃ ρ', Ext ρ w ρ' w ∧ SR ρ' (frzA P ro env os σ) w
  | [], σ, ρ, s => ⟨ρ, Ext.refl _ _, s⟩
  | o :: os, σ, ρ, s => by
    unfold frzA
    split
    · split
      · rename_i L _ _
        obtain ⟨ρ1, x1, s1⟩ := frzO_sound (ro := ro) (L := L) s
        obtain ⟨ρ2, x2, s2⟩ := frzA_sound (P := P) (ro := ro) (env := env) os _ ρ1 s1
        exact ⟨ρ2, x1.trans x2, s2⟩
      · exact frzA_sound os σ ρ s
    · exact frzA_sound os σ ρ s
theorem frzR_sound {id : Nat} {ops : List Oper} {env : Env} {σ : AS} {w : World} {ρ : Rho} (s : SR ρ σ w) : ∃ ρ', Ext ρ w ρ' w ∧ SR ρ' (frzR P cx tails id ops env σ) w := by
  unfold frzR
  split
  · exact frzA_sound _ _ _ s
  · exact ⟨ρ, Ext.refl _ _, s⟩
theorem frzO_beh {h : Nat} {ro : Option Nat} {L : Loc} {σ : AS} : Beh h ro σ (frzO ro σ L) := by
  unfold frzO
  split
  · split
    · rename_i ds σ1 hz
      split
      · split
        · rename_i hc
          simp only [Bool.and_eq_true] at hc
          exact (fzL_beh _ _ _ _ hz).trans (Beh.set hc.1 fun i cs k _ he _ _ _ => by
            cases he
            rw [AVs.inb_iff] at hc ⊢
            exact fun c hm => AV.inb_mono (Nat.zero_le _) _ (hc.2 c hm))
        · exact Beh.refl _ _ _
      · exact Beh.refl _ _ _
    · exact Beh.refl _ _ _
  · exact Beh.refl _ _ _
theorem frzA_beh {P : Program} {h : Nat} {ro : Option Nat} {env : Env} : ∀ (os : List Oper) (σ : AS), Beh h ro σ (frzA P ro env os σ)
  | [], σ => Beh.refl _ _ _
  | o :: os, σ => by
    unfold frzA
    split
    · split
      · exact frzO_beh.trans (frzA_beh os _)
      · exact frzA_beh os σ
    · exact frzA_beh os σ
theorem frzR_beh {h id : Nat} {ops : List Oper} {env : Env} {σ : AS} : Beh h cx.ro σ (frzR P cx tails id ops env σ) := by
  unfold frzR
  split
  · exact frzA_beh _ _
  · exact Beh.refl _ _ _
theorem quietN_le {P : Program} {t : Nat} {ops : List Oper} : quietN P t ops ≤ ops.length := by
  unfold quietN
  have := (List.takeWhile_prefix (p := quietOp P t) (l := ops)).length_le
  exact this
theorem regionA_sound (hm : P.follows .mixedOrders = true) (hC : CallOk P call) {id : Nat} {ops : Array Oper} {draw : Bool} (hk : codeOk P tails (.region id ops draw) = true) {env env' : Env} {σ σ' : AS} {a : Act} {w : World} {ρ : Rho}
    (s : SR ρ σ w) (hE : ER ρ w env a.tmps) (hd : a.defers = []) (h : regionA P cx tails call id ops.toList draw env σ = some (env', σ')) {Q : Exit → Act → World → Prop}
    (hQ : ∀ a' w' ρ', Ext ρ w ρ' w' → SR ρ' σ' w' → ER ρ' w' env' a'.tmps → a'.defers = [] → Q .normal a' w') : (Code.region id ops draw).wp P Q a w := by
  unfold regionA at h
  cases draw with
  | false =>
    simp only [Bool.false_eq_true, if_false] at h
    exact wp_region_list (seqA_sound hC _ _ _ _ _ _ _ _ s hE hd h hQ)
  | true =>
    simp only [if_true] at h
    simp only [codeOk, Bool.not_true, Bool.false_or] at hk
    by_cases hbad : tails.contains (id + 1000000) = true
    · rw [if_pos hbad] at h; cases h
    rw [if_neg hbad] at h
    have hk : (if tails.contains (id + 2000000) = true then mixOk P ops else drawOk ops (quietN P (tmode tails id) ops.toList)) = true := by
      rcases Bool.or_eq_true _ _ ▸ hk with hk | hk
      · exact absurd hk hbad
      · exact hk
    by_cases hmix : tails.contains (id + 2000000) = true
    · rw [if_pos hmix] at h hk
      obtain ⟨ρ0, x0, s0⟩ := frzR_sound (P := P) (cx := cx) (tails := tails) (id := id) (ops := ops.toList) (env := env) s
      exact mixA_sound hm hC hk s0 (hE.mono x0) hd h fun a' w' ρ' x' s' hE' hd' => hQ a' w' ρ' (x0.trans x') s' hE' hd'
    rw [if_neg hmix] at h hk
    have hn : quietN P (tmode tails id) ops.toList ≤ ops.size := by have := quietN_le (P := P) (t := tmode tails id) (ops := ops.toList); simpa using this
    generalize quietN P (tmode tails id) ops.toList = n at h hk hn
    split at h
    · rename_i env1 ns nh hq
      split at h
      · obtain ⟨c1, c2, hrun⟩ := quietA_runS (ops := ops) (ops.toList.take n) 0 n env env1 [] ns [] nh (fun k hk' => by rw [List.getElem?_take, if_pos hk', Nat.zero_add]) (by simp; omega) (by omega) rfl rfl hq
        simp only [List.append_nil] at hrun
        refine wp_region_lex (qs P cx call σ ops) n (R := fun S a w' => RQ ρ { w with drawn := w.drawn + 1 } σ (ops.toList.all fun o => !escNew cx o) S a w') hm hk (fun i j oi oj _ _ hi hj hij hap s s1 s2 h1 h2 => qs_comm i j oi oj hi hj hij hap s s1 s2 h1 h2)
          (fun i s0 s1 a0 w0 _ hs hR K hK => qs_sound hC s.inv i s0 s1 a0 w0 hs hR K hK) hrun ?_ ?_
        · refine ⟨ρ, Ext.refl _ _, s.drew.reserve ⟨fun o ho => (List.mem_replicate.1 ho).2, fun o ho => (List.mem_replicate.1 ho).2⟩, hE.mono Ext.drew, hd, fun L ob hg => AS.get_more' hg, fun L hg _ => ?_, fun hall => ?_, by simp⟩
          · cases hr : ρ L with
            | none => rfl
            | some p => obtain ⟨ob, ho⟩ := s.dom L p hr; rw [hg] at ho; cases ho
          · have : cnt (newHp cx) ops.toList (0 + n) = 0 := by
              unfold cnt
              rw [List.length_eq_zero_iff, List.filter_eq_nil_iff]
              intro o ho
              rw [List.all_eq_true] at hall
              have := hall o (List.mem_of_mem_take ho)
              simp only [Bool.not_eq_true'] at this
              simp [newHp, this]
            rw [this]; simp
        · intro a1 w1 ⟨ρ1, x1, s1, hE1, hd1, _⟩
          exact seqA_sound hC _ _ _ _ _ _ _ _ s1 hE1 hd1 h fun a' w' ρ' x' s' hE' hd' => hQ a' w' ρ' ((Ext.drew.trans x1).trans x') s' hE' hd'
      · cases h
    · cases h
theorem regionA_beh (hC : CallOk P call) {id : Nat} {ops : List Oper} {draw : Bool} {env env' : Env} {σ σ' : AS} (h : regionA P cx tails call id ops draw env σ = some (env', σ')) (hh : cx.h ≤ σ.st.length) : Beh cx.h cx.ro σ σ' := by
  unfold regionA at h
  split at h
  · by_cases hbad : tails.contains (id + 1000000) = true
    · rw [if_pos hbad] at h; cases h
    rw [if_neg hbad] at h
    by_cases hmix : tails.contains (id + 2000000) = true
    · rw [if_pos hmix] at h
      exact frzR_beh.trans (mixA_beh hC h (Nat.le_trans hh (frzR_beh (h := 0)).len))
    rw [if_neg hmix] at h
    split at h
    · rename_i env1 ns nh hq
      split at h
      · rename_i hro
        refine Beh.trans ?_ (seqA_beh hC _ _ _ _ _ h (by simp; omega))
        refine ⟨fun k hk hi i cs hik hg => ?_, fun k hr hk => ⟨?_, ?_⟩, by simp⟩
        · simp only at hg
          rw [List.getElem?_append_left (by omega)] at hg
          exact hi i cs hik hg
        · rw [hr] at hro
          simp only [Option.isNone_some, Bool.or_false, List.isEmpty_iff] at hro
          simp [hro]
        · simp only
          rw [List.take_append_of_le_length hk]
      · cases h
    · cases h
  · exact seqA_beh hC _ _ _ _ _ h hh
end
end Go.Abs
end
section
namespace Go.Abs
section
variable {P : Program} {cx : Cx} {call : Caller} {tails : List Nat}
def AExit.of : AExit → Exit
  | .normal => .normal
  | .exit id => .exit id
  | .ret => .ret
def Post (ρ : Rho) (w : World) (e : AExit) (st : St) (Q : Exit → Act → World → Prop) : Prop :=
  ∀ a' w' ρ', Ext ρ w ρ' w' → SR ρ' st.2 w' → ER ρ' w' st.1 a'.tmps → a'.defers = [] → Q e.of a' w'
theorem Post.trans {ρ ρ1 : Rho} {w w1 : World} {e : AExit} {st : St} {Q : Exit → Act → World → Prop} (h : Post ρ w e st Q) (x : Ext ρ w ρ1 w1) : Post ρ1 w1 e st Q :=
  fun a' w' ρ' x' s' hE' hd' => h a' w' ρ' (x.trans x') s' hE' hd'
theorem Post.thn {ρ : Rho} {w : World} {e : AExit} {st : St} {K : Act → World → Prop} {Q : Exit → Act → World → Prop} (hn : e ≠ .normal) (h : Post ρ w e st Q) : Post ρ w e st (Exit.then K Q) :=
  fun a' w' ρ' x' s' hE' hd' => by
    have := h a' w' ρ' x' s' hE' hd'
    cases e with
    | normal => exact absurd rfl hn
    | exit id => exact this
    | ret => exact this
theorem iterA_sound {c : Code} {f : St → Option (AExit × St)} (hf : ∀ (st st' : St) (e : AExit) (a : Act) (w : World) (ρ : Rho), SR ρ st.2 w → ER ρ w st.1 a.tmps → a.defers = [] → f st = some (e, st') → ∀ Q, Post ρ w e st' Q → c.wp P Q a w) :
    ∀ (m : Nat) (st st' : St) (e : AExit) (a : Act) (w : World) (ρ : Rho), SR ρ st.2 w → ER ρ w st.1 a.tmps → a.defers = [] → iterA f m st = some (e, st') → ∀ Q, Post ρ w e st' Q → Code.rounds P c Q m a w
  | 0, st, st', e, a, w, ρ, _, _, _, h, Q, _ => by cases h
  | m + 1, st, st', e, a, w, ρ, s, hE, hd, h, Q, hQ => by
    simp only [iterA] at h
    rw [rounds_succ]
    split at h
    · rename_i st1 h1
      exact hf st st1 .normal a w ρ s hE hd h1 _ fun a1 w1 ρ1 x1 s1 hE1 hd1 => iterA_sound hf m st1 st' e a1 w1 ρ1 s1 hE1 hd1 h Q (hQ.trans x1)
    · rename_i hne
      refine hf st st' e a w ρ s hE hd h _ (Post.thn (fun he => ?_) hQ)
      subst he
      exact hne st' h
theorem execA_sound (hm : P.follows .mixedOrders = true) (hC : CallOk P call) {n : Nat} : ∀ (c : Code) (st st' : St) (e : AExit) (a : Act) (w : World) (ρ : Rho), codeOk P tails c = true → SR ρ st.2 w → ER ρ w st.1 a.tmps → a.defers = [] →
    execA P cx tails call n c st = some (e, st') → ∀ Q, Post ρ w e st' Q → c.wp P Q a w
  | .skip, st, st', e, a, w, ρ, _, s, hE, hd, h, Q, hQ => by
    simp only [execA, Option.some.injEq, Prod.mk.injEq] at h
    obtain ⟨rfl, rfl⟩ := h
    exact wp_skip (hQ a w ρ (Ext.refl _ _) s hE hd)
  | .label l, st, st', e, a, w, ρ, _, s, hE, hd, h, Q, hQ => by
    simp only [execA, Option.some.injEq, Prod.mk.injEq] at h
    obtain ⟨rfl, rfl⟩ := h
    exact wp_label (hQ a w ρ (Ext.refl _ _) s hE hd)
  | .region id ops draw, st, st', e, a, w, ρ, hk, s, hE, hd, h, Q, hQ => by
    simp only [execA] at h
    split at h
    · rename_i st1 h1
      simp only [Option.some.injEq, Prod.mk.injEq] at h
      obtain ⟨rfl, rfl⟩ := h
      exact regionA_sound hm hC hk s hE hd h1 hQ
    · cases h
  | .seq x y, st, st', e, a, w, ρ, hk, s, hE, hd, h, Q, hQ => by
    simp only [codeOk, Bool.and_eq_true] at hk
    simp only [execA] at h
    refine wp_seq ?_
    split at h
    · rename_i st1 h1
      exact execA_sound hm hC x st st1 .normal a w ρ hk.1 s hE hd h1 _ fun a1 w1 ρ1 x1 s1 hE1 hd1 => execA_sound hm hC y st1 st' e a1 w1 ρ1 hk.2 s1 hE1 hd1 h Q (hQ.trans x1)
    · rename_i hne
      refine execA_sound hm hC x st st' e a w ρ hk.1 s hE hd h _ (Post.thn (fun he => ?_) hQ)
      subst he
      exact hne st' h
  | .cond c x y, st, st', e, a, w, ρ, hk, s, hE, hd, h, Q, hQ => by
    simp only [codeOk, Bool.and_eq_true] at hk
    simp only [execA] at h
    split at h
    · rename_i hc
      have hv := ev_sound hE hc
      generalize hu : a.eval c = u at hv
      cases hv
      exact wp_cond_true hu (execA_sound hm hC x st st' e a w ρ hk.1 s hE hd h Q hQ)
    · rename_i hc
      have hv := ev_sound hE hc
      generalize hu : a.eval c = u at hv
      cases hv
      exact wp_cond_false hu (execA_sound hm hC y st st' e a w ρ hk.2 s hE hd h Q hQ)
    · cases h
  | .block id c, st, st', e, a, w, ρ, hk, s, hE, hd, h, Q, hQ => by
    simp only [codeOk] at hk
    simp only [execA] at h
    refine wp_block ?_
    split at h
    · rename_i i st1 h1
      refine execA_sound hm hC c st st1 (.exit i) a w ρ hk s hE hd h1 _ fun a1 w1 ρ1 x1 s1 hE1 hd1 => ?_
      simp only [AExit.of, Exit.inBlock]
      split at h
      · rename_i hi
        simp only [Option.some.injEq, Prod.mk.injEq] at h
        obtain ⟨rfl, rfl⟩ := h
        rw [if_pos hi]
        exact hQ a1 w1 ρ1 x1 s1 hE1 hd1
      · rename_i hi
        simp only [Option.some.injEq, Prod.mk.injEq] at h
        obtain ⟨rfl, rfl⟩ := h
        rw [if_neg hi]
        exact hQ a1 w1 ρ1 x1 s1 hE1 hd1
    · rename_i hne
      refine execA_sound hm hC c st st' e a w ρ hk s hE hd h _ fun a1 w1 ρ1 x1 s1 hE1 hd1 => ?_
      have := hQ a1 w1 ρ1 x1 s1 hE1 hd1
      cases e with
      | normal => exact this
      | exit i => exact absurd h (hne i st')
      | ret => exact this
  | .loop c, st, st', e, a, w, ρ, hk, s, hE, hd, h, Q, hQ => by
    simp only [codeOk] at hk
    simp only [execA] at h
    exact wp_loop_rounds n (iterA_sound (fun st st' e a w ρ s hE hd h Q hQ => execA_sound hm hC c st st' e a w ρ hk s hE hd h Q hQ) n st st' e a w ρ s hE hd h Q hQ)
  | .exit id, st, st', e, a, w, ρ, _, s, hE, hd, h, Q, hQ => by
    simp only [execA, Option.some.injEq, Prod.mk.injEq] at h
    obtain ⟨rfl, rfl⟩ := h
    exact wp_exit (hQ a w ρ (Ext.refl _ _) s hE hd)
  | .ret, st, st', e, a, w, ρ, _, s, hE, hd, h, Q, hQ => by
    simp only [execA, Option.some.injEq, Prod.mk.injEq] at h
    obtain ⟨rfl, rfl⟩ := h
    exact wp_ret (hQ a w ρ (Ext.refl _ _) s hE hd)
  | .goto _, st, st', e, a, w, ρ, _, _, _, _, h, _, _ => by simp [execA] at h
theorem iterA_beh {f : St → Option (AExit × St)} {h0 : Nat} {ro : Option Nat} (hf : ∀ (st st' : St) (e : AExit), h0 ≤ st.2.st.length → f st = some (e, st') → Beh h0 ro st.2 st'.2) :
    ∀ (m : Nat) (st st' : St) (e : AExit), h0 ≤ st.2.st.length → iterA f m st = some (e, st') → Beh h0 ro st.2 st'.2
  | 0, st, st', e, _, h => by cases h
  | m + 1, st, st', e, hh, h => by
    simp only [iterA] at h
    split at h
    · rename_i st1 h1
      have b := hf st st1 .normal hh h1
      exact b.trans (iterA_beh hf m st1 st' e (Nat.le_trans hh b.len) h)
    · exact hf st st' e hh h
theorem execA_beh (hC : CallOk P call) {n : Nat} : ∀ (c : Code) (st st' : St) (e : AExit), cx.h ≤ st.2.st.length → execA P cx tails call n c st = some (e, st') → Beh cx.h cx.ro st.2 st'.2
  | .skip, st, st', e, _, h => by
    simp only [execA, Option.some.injEq, Prod.mk.injEq] at h
    obtain ⟨rfl, rfl⟩ := h
    exact Beh.refl _ _ _
  | .label l, st, st', e, _, h => by
    simp only [execA, Option.some.injEq, Prod.mk.injEq] at h
    obtain ⟨rfl, rfl⟩ := h
    exact Beh.refl _ _ _
  | .region id ops draw, st, st', e, hh, h => by
    simp only [execA] at h
    split at h
    · rename_i st1 h1
      simp only [Option.some.injEq, Prod.mk.injEq] at h
      obtain ⟨rfl, rfl⟩ := h
      exact regionA_beh hC h1 hh
    · cases h
  | .seq x y, st, st', e, hh, h => by
    simp only [execA] at h
    split at h
    · rename_i st1 h1
      have b := execA_beh hC x st st1 .normal hh h1
      exact b.trans (execA_beh hC y st1 st' e (Nat.le_trans hh b.len) h)
    · exact execA_beh hC x st st' e hh h
  | .cond c x y, st, st', e, hh, h => by
    simp only [execA] at h
    split at h
    · exact execA_beh hC x st st' e hh h
    · exact execA_beh hC y st st' e hh h
    · cases h
  | .block id c, st, st', e, hh, h => by
    simp only [execA] at h
    split at h
    · rename_i i st1 h1
      have b := execA_beh hC c st st1 (.exit i) hh h1
      split at h <;> (simp only [Option.some.injEq, Prod.mk.injEq] at h; obtain ⟨rfl, rfl⟩ := h; exact b)
    · exact execA_beh hC c st st' e hh h
  | .loop c, st, st', e, hh, h => by
    simp only [execA] at h
    exact iterA_beh (fun st st' e hh h => execA_beh hC c st st' e hh h) n st st' e hh h
  | .exit id, st, st', e, _, h => by
    simp only [execA, Option.some.injEq, Prod.mk.injEq] at h
    obtain ⟨rfl, rfl⟩ := h
    exact Beh.refl _ _ _
  | .ret, st, st', e, _, h => by
    simp only [execA, Option.some.injEq, Prod.mk.injEq] at h
    obtain ⟨rfl, rfl⟩ := h
    exact Beh.refl _ _ _
  | .goto _, st, st', e, _, h => by simp [execA] at h
end
end Go.Abs
end
section
namespace Go.Abs
section
variable {P : Program} {ρ : Rho} {σ : AS} {w : World}
theorem resA_sound (s : SRo ρ σ w) {env : Env} {tmps : Array Value} (hE : ER ρ w env tmps) : ∀ (rs : List ResultVar) (vs : List AV), resA P σ env rs = some vs →
    ∃ us : List Value, ((rs.mapM fun | .tmp t => pure (tmps.getD t undef) | .cell a t => do loadVar t (← asAddr (tmps.getD a undef)) : Sem (List Value)).run P w = .ok us w) ∧ VRs ρ w vs us
  | [], vs, h => by
    simp only [resA, Option.some.injEq] at h
    subst h
    exact ⟨[], by simp, VRs.nil⟩
  | .tmp t :: rs, vs, h => by
    simp only [resA] at h
    split at h
    · rename_i vs' h'
      cases h
      obtain ⟨us, h1, h2⟩ := resA_sound s hE rs vs' h'
      exact ⟨_ :: us, by simp only [List.mapM_cons, Sem.run_bind, Sem.run_pure, Result.andThen_ok, h1], VRs.cons (hE.get t) h2⟩
    · cases h
  | .cell x t :: rs, vs, h => by
    simp only [resA] at h
    split at h
    · rename_i v vs' h0 h'
      cases h
      obtain ⟨us, h1, h2⟩ := resA_sound s hE rs vs' h'
      have hv := hE.get x
      obtain ⟨u, u1, u2⟩ := loadA_sound (P := P) s hv h0
      refine ⟨u :: us, ?_, VRs.cons u2 h2⟩
      have : (do loadVar t (← asAddr (tmps.getD x undef)) : Sem Value).run P w = .ok u w := by
        generalize env.get x = c at hv h0
        generalize tmps.getD x undef = y at hv u1 ⊢
        cases hv <;> first | exact u1 | (simp only [loadA] at h0; cases h0)
      simp only [List.mapM_cons, Sem.run_bind, Sem.run_pure, this, Result.andThen_ok, h1]
    · cases h
theorem results_sound (s : SRo ρ σ w) {env : Env} {tmps : Array Value} (hE : ER ρ w env tmps) {fn : Func} {vs : List AV} (h : resA P σ env fn.results.toList = some vs) :
    ∃ u, (results fn tmps).run P w = .ok u w ∧ VR ρ w (oneA vs) u := by
  obtain ⟨us, h1, h2⟩ := resA_sound s hE _ _ h
  unfold results
  rw [Sem.run_bind, Array.mapM_eq_mapM_toList, Sem.run_map]
  erw [h1]
  cases vs with
  | nil =>
    have : us = [] := by have := h2.1; simpa using this.symm
    subst this
    exact ⟨_, rfl, .tup [] #[] rfl (fun i c v hc => by simp at hc)⟩
  | cons v vs =>
    obtain ⟨u, us', rfl, hu, hus⟩ := h2.cons_inv
    cases vs with
    | nil =>
      have : us' = [] := by have := hus.1; simpa using this.symm
      subst this
      exact ⟨u, rfl, hu⟩
    | cons v' vs =>
      obtain ⟨u', us'', rfl, hu', hus'⟩ := hus.cons_inv
      refine ⟨.tuple (u :: u' :: us'').toArray, ?_, .tup _ _ (by have := h2.1; simpa using this) (fun i c x hc hx => h2.2 i c x hc (by simpa using hx))⟩
      simp
end
def Fz (h : Nat) (σ σ' : AS) : Prop :=
  σ'.hp = σ.hp ∧ σ'.st.length = σ.st.length ∧ σ'.st.take h = σ.st.take h ∧ ∀ i : Nat, σ'.st[i]? = σ.st[i]? ∨ ∃ es sz v fro, σ.st[i]? = some (.row es sz v fro) ∧ σ'.st[i]? = some (.row es sz v true)
theorem Fz.refl (h : Nat) (σ : AS) : Fz h σ σ := ⟨rfl, rfl, rfl, fun _ => .inl rfl⟩
theorem Fz.trans {h : Nat} {σ σ1 σ2 : AS} (a : Fz h σ σ1) (b : Fz h σ1 σ2) : Fz h σ σ2 := by
  refine ⟨b.1.trans a.1, b.2.1.trans a.2.1, b.2.2.1.trans a.2.2.1, fun i => ?_⟩
  rcases a.2.2.2 i with h1 | ⟨es, sz, v, fro, h1, h2⟩ <;> rcases b.2.2.2 i with k1 | ⟨es', sz', v', fro', k1, k2⟩
  · exact .inl (k1.trans h1)
  · exact .inr ⟨_, _, _, _, h1 ▸ k1, k2⟩
  · exact .inr ⟨_, _, _, _, h1, k1.trans h2⟩
  · rw [h2] at k1
    cases k1
    exact .inr ⟨_, _, _, _, h1, k2⟩
mutual
theorem back_fz {h : Nat} {σ σ' : AS} (z : Fz h σ σ') : ∀ (x y : AV), x.back h σ = some y → x.back h σ' = some y
  | .row (.st i) v off len, y, hb => by
    simp only [AV.back] at hb ⊢
    split at hb
    · rename_i hi; rw [if_pos hi]; exact hb
    · rename_i hi
      rw [if_neg hi]
      rcases z.2.2.2 i with h1 | ⟨es, sz, v', fro, h1, h2⟩
      · rw [h1]; exact hb
      · rw [h1] at hb
        rw [h2]
        exact hb
  | .row (.hp i) v off len, y, hb => by simpa [AV.back] using hb
  | .agg cs, y, hb => by
    simp only [AV.back] at hb ⊢
    split at hb
    · rename_i cs' hc
      rw [backs_fz z cs cs' hc]; exact hb
    · cases hb
  | .tup cs, y, hb => by
    simp only [AV.back] at hb ⊢
    split at hb
    · rename_i cs' hc
      rw [backs_fz z cs cs' hc]; exact hb
    · cases hb
  | .bool _, y, hb | .int _ _, y, hb | .str _, y, hb | .nilp, y, hb | .ptr _ _, y, hb | .rptr _ _, y, hb | .eptr _ _ _ _, y, hb | .nils, y, hb | .sl _ _ _, y, hb | .nilm, y, hb | .map _, y, hb | .fn _ _ _, y, hb | .nilf, y, hb | .iface _ _, y, hb | .nili, y, hb | .any, y, hb => by
    simpa [AV.back] using hb
theorem backs_fz {h : Nat} {σ σ' : AS} (z : Fz h σ σ') : ∀ (xs ys : List AV), AVs.back h σ xs = some ys → AVs.back h σ' xs = some ys
  | [], ys, hb => by simpa [AVs.back] using hb
  | x :: xs, ys, hb => by
    simp only [AVs.back] at hb ⊢
    split at hb
    · rename_i y ys' h1 h2
      rw [back_fz z x y h1, backs_fz z xs ys' h2]; exact hb
    · cases hb
end
theorem VRs.of_arr {ρ : Rho} {w : World} {cs : List AV} {vs : Array Value} (l : cs.length = vs.size) (h : ∀ (i : Nat) (c : AV) (v : Value), cs[i]? = some c → vs[i]? = some v → VR ρ w c v) : VRs ρ w cs vs.toList :=
  ⟨by simpa using l, fun i c v hc hv => h i c v hc (by simpa using hv)⟩
mutual
theorem back_sound {h : Nat} {w : World} : ∀ (x y : AV) (u : Value) (ρ : Rho) (σ : AS), SR ρ σ w → VR ρ w x u → x.back h σ = some y → ∃ ρ' σ', Fz h σ σ' ∧ Ext ρ w ρ' w ∧ SR ρ' σ' w ∧ VR ρ' w y u
  | .row (.st i) v off len, y, u, ρ, σ, s, hv, hb => by
    simp only [AV.back] at hb
    split at hb
    · cases hb
      exact ⟨ρ, σ, Fz.refl _ _, Ext.refl _ _, s, hv⟩
    · rename_i hi
      split at hb
      · rename_i es sz v' fro hg
        split at hb
        · rename_i hc
          obtain ⟨rfl, hle⟩ := hc
          cases hb
          have hg' : σ.get (.st i) = some (.row es sz v' fro) := hg
          obtain ⟨ρ', x', s'⟩ := s.freeze hg'
          refine ⟨ρ', σ.set (.st i) (.row es sz v' true), ⟨rfl, by simp [AS.set], ?_, fun j => ?_⟩, x', s', VR.row_sl s' ?_ hle (hv.mono x')⟩
          · simp only [AS.set]
            rw [List.take_set_of_le (by omega)]
          · simp only [AS.set]
            by_cases hj : i = j
            · subst hj
              refine .inr ⟨es, sz, v', fro, hg, ?_⟩
              rw [List.getElem?_set_self (List.getElem?_eq_some_iff.1 hg).1]
            · exact .inl (List.getElem?_set_ne hj)
          · rw [AS.get_set, if_pos rfl, hg']; rfl
        · cases hb
      · cases hb
  | .row (.hp i) v off len, y, u, ρ, σ, s, hv, hb => by
    simp only [AV.back, Option.some.injEq] at hb
    subst hb
    exact ⟨ρ, σ, Fz.refl _ _, Ext.refl _ _, s, hv⟩
  | .agg cs, y, u, ρ, σ, s, hv, hb => by
    simp only [AV.back] at hb
    split at hb
    · rename_i cs' hc
      cases hb
      cases hv with
      | agg _ vs l hh =>
        obtain ⟨ρ', σ', z, x', s', v'⟩ := backs_sound cs cs' vs.toList ρ σ s (VRs.of_arr l hh) hc
        exact ⟨ρ', σ', z, x', s', .agg _ _ (by simpa using v'.1) (fun i c v hc hv => v'.2 i c v hc (by simpa using hv))⟩
    · cases hb
  | .tup cs, y, u, ρ, σ, s, hv, hb => by
    simp only [AV.back] at hb
    split at hb
    · rename_i cs' hc
      cases hb
      cases hv with
      | tup _ vs l hh =>
        obtain ⟨ρ', σ', z, x', s', v'⟩ := backs_sound cs cs' vs.toList ρ σ s (VRs.of_arr l hh) hc
        exact ⟨ρ', σ', z, x', s', .tup _ _ (by simpa using v'.1) (fun i c v hc hv => v'.2 i c v hc (by simpa using hv))⟩
    · cases hb
  | .bool _, y, u, ρ, σ, s, hv, hb | .int _ _, y, u, ρ, σ, s, hv, hb | .str _, y, u, ρ, σ, s, hv, hb | .nilp, y, u, ρ, σ, s, hv, hb | .ptr _ _, y, u, ρ, σ, s, hv, hb | .rptr _ _, y, u, ρ, σ, s, hv, hb | .eptr _ _ _ _, y, u, ρ, σ, s, hv, hb
  | .nils, y, u, ρ, σ, s, hv, hb | .sl _ _ _, y, u, ρ, σ, s, hv, hb | .nilm, y, u, ρ, σ, s, hv, hb | .map _, y, u, ρ, σ, s, hv, hb | .fn _ _ _, y, u, ρ, σ, s, hv, hb | .nilf, y, u, ρ, σ, s, hv, hb | .iface _ _, y, u, ρ, σ, s, hv, hb | .nili, y, u, ρ, σ, s, hv, hb | .any, y, u, ρ, σ, s, hv, hb => by
    simp only [AV.back, Option.some.injEq] at hb
    subst hb
    exact ⟨ρ, σ, Fz.refl _ _, Ext.refl _ _, s, hv⟩
theorem backs_sound {h : Nat} {w : World} : ∀ (xs ys : List AV) (us : List Value) (ρ : Rho) (σ : AS), SR ρ σ w → VRs ρ w xs us → AVs.back h σ xs = some ys → ∃ ρ' σ', Fz h σ σ' ∧ Ext ρ w ρ' w ∧ SR ρ' σ' w ∧ VRs ρ' w ys us
  | [], ys, us, ρ, σ, s, hv, hb => by
    simp only [AVs.back, Option.some.injEq] at hb
    subst hb
    exact ⟨ρ, σ, Fz.refl _ _, Ext.refl _ _, s, hv⟩
  | x :: xs, ys, us, ρ, σ, s, hv, hb => by
    simp only [AVs.back] at hb
    split at hb
    · rename_i y ys' h1 h2
      cases hb
      obtain ⟨u, us', rfl, hu, hus⟩ := hv.cons_inv
      obtain ⟨ρ1, σ1, z1, x1, s1, v1⟩ := back_sound x y u ρ σ s hu h1
      obtain ⟨ρ2, σ2, z2, x2, s2, v2⟩ := backs_sound xs ys' us' ρ1 σ1 s1 (hus.mono x1) (backs_fz z1 xs ys' h2)
      exact ⟨ρ2, σ2, z1.trans z2, x1.trans x2, s2, VRs.cons (v1.mono x2) v2⟩
    · cases hb
end
end Go.Abs
end
