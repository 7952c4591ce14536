/- The document's row with a key turned. -/

import Derived.Test.YtajoebiaopapoaaCn
open Go Go.Abs Go.Proofs
set_option maxRecDepth 100000
set_option maxHeartbeats 4000000
set_option linter.unusedSimpArgs false
set_option linter.unusedVariables false
set_option linter.unnecessarySimpa false

/-- One object's row was turned: all else stays. -/
def SetR (hp hp' : List AObj) (b : Nat) (T : List Rw) : Prop := hp.length ≤ hp'.length ∧ (∀ i, i ≠ b → i < hp.length → hp'[i]? = hp[i]?) ∧ ∃ X', hp'[b]? = some (.cells [X']) ∧ HRow hp' X' (T.map encRow)
namespace F51
theorem ok (hp s : List AObj) (b : Nat) (key : ByteArray) (l : List Vn) (Y X : AV) (S : List Rw) (s1 : List AObj) (hA : hp[b]? = some (.cells [X])) (hX : HRow hp X (S.map encRow)) (hlen2 : S.length ≤ 200) (hYl : lenA Try.prog ⟨hp, s⟩ 34 Y = some l.length) (hY1 : Y.one = true) (hF : l ≠ [] → FzOk s.length none ⟨hp, s⟩ ⟨hp, s1⟩ key Y (slV 4 (l.map encVn))) (hF0 : l = [] → s1 = s) (hs1 : s1.length = s.length) :
    ∃ hp', callW Try.prog how 51 [.ptr (.hp b) 0, .str key, Y] ⟨hp, s⟩ none = some (.tup [], ⟨hp', s1⟩) ∧ SetR hp hp' b (setS key l S) := by
  let cx : Cx := { h := s.length, ro := none, esc := [] }
  have hcx : cx.esc = [] := rfl
  have hro : ∀ k, cx.ro = some k → k ≤ cx.h := fun k hk => by cases hk
  obtain ⟨env, henv⟩ : ∃ e, e = frameA Try.f51 [.ptr (.hp b) 0, .str key, Y] := ⟨_, rfl⟩
  have hlen : env.length = 57 := by rw [henv]; rfl
  have f0 : Env.get env 0 = .ptr (.hp b) 0 := by rw [henv]; rfl
  have f1 : Env.get env 1 = .str key := by rw [henv]; rfl
  have f2 : Env.get env 2 = Y := by rw [henv]; rfl
  have ho : Outside s.length (AS.mk hp s) (AS.mk hp s) := Outside.refl (Nat.le_refl _)
  have hb : b < hp.length := (List.getElem?_eq_some_iff.1 hA).1
  obtain ⟨env1, x1a, x1b, x1c, x1d⟩ := rA cx env (AS.mk hp s)  hlen hcx   
  have f0 := (x1d 0 (by decide)).trans f0
  have f1 := (x1d 1 (by decide)).trans f1
  have f2 := (x1d 2 (by decide)).trans f2
  have f6 := x1c
  have key2 : ∃ env', execW Try.prog cx [] (callW Try.prog how) (cr [.r, .l]) (env1, ⟨hp, s⟩) = some (.normal, (env', ⟨hp, s⟩)) ∧ env'.length = 57 ∧ Env.get env' 7 = .bool l.isEmpty ∧ ∀ i, i ∉ [7, 10, 11, 12] → Env.get env' i = Env.get env1 i := by
    cases l with
    | nil => exact rB0 cx env1 ⟨hp, s⟩ Y x1b hcx f2 hYl
    | cons x l' => exact rB1 cx env1 ⟨hp, s⟩ Y _ x1b hcx f2 hYl (by simp) (by simp; omega)
  obtain ⟨env2, x2a, x2b, x2c, x2d⟩ := key2
  have f0 := (x2d 0 (by decide)).trans f0
  have f1 := (x2d 1 (by decide)).trans f1
  have f2 := (x2d 2 (by decide)).trans f2
  have f6 := (x2d 6 (by decide)).trans f6
  have f7 := x2c
  have hlx := (hX.rd s).1
  rw [List.length_map] at hlx
  obtain ⟨env3, x3a, x3b, x3c, x3d⟩ := rC cx env2 (AS.mk hp s) b S.length X x2b hcx f0 hA hlx 
  have f0 := (x3d 0 (by decide)).trans f0
  have f1 := (x3d 1 (by decide)).trans f1
  have f2 := (x3d 2 (by decide)).trans f2
  have f6 := (x3d 6 (by decide)).trans f6
  have f7 := (x3d 7 (by decide)).trans f7
  have f16 := x3c.1
  have f17 := x3c.2.1
  have f18 := x3c.2.2
  have hd0 : (accS key l (S.take 0)) = ([], l.isEmpty) := rfl
  have ho0 : Outside s.length (sel ⟨hp, s⟩ ⟨hp, s1⟩ (accS key l (S.take 0)).2) ⟨hp, s⟩ := by
    rw [hd0]
    cases l with
    | nil => rw [hF0 rfl]; exact ho
    | cons x l' => exact ho
  obtain ⟨e4, env4, σ4, x4a, x4p⟩ := loop cx hcx hro ⟨hp, s⟩ ⟨hp, s1⟩ b key l Y X S hX rfl hlen2 hY1 hF (by omega) (σ := AS.mk hp s) x3b f18 f17 (⟨f0, f1, f2, f16, f7, ⟨.nils, f6, Rows0⟩, ho0⟩)
  rcases x4p with ⟨rfl, ⟨x4b, f0, f1, f2, f16, f7, ⟨R0, f6, hR⟩, ho⟩ | x4p⟩ | ⟨x4q, x4r, x4p⟩
  · skip
    rw [List.take_length] at f7 hR ho
    have hal := accS_len key l S
    have hne := accS_ne (key := key) (l := l) (S := S)
    have hse : ∀ o d, accS key l S = (o, d) → setS key l S = if d = true then o else o ++ [(key, l)] := fun o d h => by unfold setS; rw [h]
    generalize accS key l S = a at *
    obtain ⟨od, dn⟩ := a
    have hse := hse od dn rfl
    simp only at hal hne f7 hR ho
    cases dn with
    | true =>
      obtain ⟨env5, x5a, x5b, x5c, x5d⟩ := rT1 cx env4 σ4  x4b hcx f7  
      have f0 := (x5d 0 (by decide)).trans f0
      have f1 := (x5d 1 (by decide)).trans f1
      have f2 := (x5d 2 (by decide)).trans f2
      have f6 := (x5d 6 (by decide)).trans f6
      have f7 := (x5d 7 (by decide)).trans f7
      have f16 := (x5d 16 (by decide)).trans f16
      have hhp : σ4.hp = hp := ho.1
      have hAz : σ4.get (.hp b) = some (.cells [X]) := by simp only [AS.get, hhp]; exact hA
      have hlst : s.length ≤ σ4.st.length := ho.2.2
      have htk : (σ4.st).take s.length = s1 := by rw [ho.2.1]; show s1.take s.length = s1; rw [← hs1, List.take_length]
      rcases hR.1 (2, R0, (od).map encRow) (by simp) with ⟨hz, he⟩ | ⟨hn, im, w, hRe, hg, hi⟩
      · simp only at hz he
        rw [hz] at f6
        obtain ⟨env6, x6a, x6b, x6c, x6d⟩ := rZ1 cx env5 σ4 b X x5b hcx f0 f6 hAz rfl 
        have f0 := (x6d 0 (by decide)).trans f0
        have f1 := (x6d 1 (by decide)).trans f1
        have f2 := (x6d 2 (by decide)).trans f2
        have f6 := (x6d 6 (by decide)).trans f6
        have f7 := (x6d 7 (by decide)).trans f7
        have f16 := (x6d 16 (by decide)).trans f16
        refine ⟨σ4.hp.set b (.cells [.nils]), call_of (fl := {}) (fn := Try.f51) (c := bodyC) (env := env) (e := (.normal, (env6, σ4.set (.hp b) (.cells [.nils])))) rfl Try.func51 body henv (by unfold bodyC; exact (execW_seq_of x1a (execW_seq_of x2a (execW_seq_of (execW_seq_of x3a x4a) (execW_seq_of x5a x6a))))) ((fin_none (.inr rfl) rfl rfl).trans (by simp only [AS.set, htk])), by simp [hhp], fun i hi hlt => by rw [hhp, List.getElem?_set_ne (fun e => hi e.symm)], .nils, by rw [hhp, List.getElem?_set_self hb], .inl ⟨rfl, ?_⟩⟩
        rw [hse]; simpa using he
      · simp only at hRe hg hi
        have hi : s.length ≤ im := hi
        rw [hRe] at f6
        obtain ⟨env6, x6a, x6b, x6c, x6d⟩ := rZ2 cx env5 σ4 b im w (((od).map encRow).length) ((od).map encRow) X x5b hcx f0 f6 hAz rfl hg 
        have f0 := (x6d 0 (by decide)).trans f0
        have f1 := (x6d 1 (by decide)).trans f1
        have f2 := (x6d 2 (by decide)).trans f2
        have f6 := (x6d 6 (by decide)).trans f6
        have f7 := (x6d 7 (by decide)).trans f7
        have f16 := (x6d 16 (by decide)).trans f16
        refine ⟨(σ4.hp ++ [(AObj.row ((od).map encRow) 2 w false)]).set b (.cells [.row (.hp σ4.hp.length) w 0 ((od).map encRow).length]), call_of (fl := {}) (fn := Try.f51) (c := bodyC) (env := env) (e := (.normal, (env6, AS.set (AS.mk (σ4.hp ++ [(AObj.row ((od).map encRow) 2 w false)]) (σ4.st.set im .dead)) (.hp b) (.cells [.row (.hp σ4.hp.length) w 0 ((od).map encRow).length])))) rfl Try.func51 body henv (by unfold bodyC; exact (execW_seq_of x1a (execW_seq_of x2a (execW_seq_of (execW_seq_of x3a x4a) (execW_seq_of x5a x6a))))) ((fin_none (.inr rfl) rfl rfl).trans (by simp only [AS.set, List.take_set_of_le hi, htk])), by simp [hhp], fun i hi hlt => by rw [hhp, List.getElem?_set_ne (fun e => hi e.symm), List.getElem?_append_left hlt], .row (.hp σ4.hp.length) w 0 ((od).map encRow).length, by rw [hhp, List.getElem?_set_self (by simp; omega)], .inr ⟨σ4.hp.length, w, false, ?_, ?_⟩⟩
        · rw [hse]; simp
        · rw [hse, hhp, List.getElem?_set_ne (by omega), List.getElem?_append_right (Nat.le_refl _)]; simp
    | false =>
      obtain ⟨σa5, z51, z52, z53, z54⟩ := (hF (hne rfl)).fz _ ho
      have hR := z54 _ hR
      have ho := z52
      obtain ⟨R5, τ5, y5a, y5b, y5c, y5d, y5e⟩ := append_one (cx := cx) (x := encRow (key, l)) (j := 0) app26 hR rfl (by simp; omega) (by decide) hro ho.2.2
      obtain ⟨env5, x5a, x5b, x5c, x5d⟩ := rT2 cx env4 σ4 key Y ((slV 4 (l.map encVn))) σa5 R5 _ τ5 x4b hcx f1 f2 f6 f7 hY1 (one_cells hY1) slV_plain z51 y5a 
      have f0 := (x5d 0 (by decide)).trans f0
      have f1 := (x5d 1 (by decide)).trans f1
      have f2 := (x5d 2 (by decide)).trans f2
      have f7 := (x5d 7 (by decide)).trans f7
      have f16 := (x5d 16 (by decide)).trans f16
      have f6 := x5c
      have hR := y5c
      have ho := y5e _ ho
      have hR : Rows s.length τ5 [(2, R5, (od ++ [(key, l)]).map encRow)] := by simpa using hR
      have hhp : τ5.hp = hp := ho.1
      have hAz : τ5.get (.hp b) = some (.cells [X]) := by simp only [AS.get, hhp]; exact hA
      have hlst : s.length ≤ τ5.st.length := ho.2.2
      have htk : (τ5.st).take s.length = s1 := by rw [ho.2.1]; show s1.take s.length = s1; rw [← hs1, List.take_length]
      rcases hR.1 (2, R5, (od ++ [(key, l)]).map encRow) (by simp) with ⟨hz, he⟩ | ⟨hn, im, w, hRe, hg, hi⟩
      · simp only at hz he
        rw [hz] at f6
        obtain ⟨env6, x6a, x6b, x6c, x6d⟩ := rZ1 cx env5 τ5 b X x5b hcx f0 f6 hAz rfl 
        have f0 := (x6d 0 (by decide)).trans f0
        have f1 := (x6d 1 (by decide)).trans f1
        have f2 := (x6d 2 (by decide)).trans f2
        have f6 := (x6d 6 (by decide)).trans f6
        have f7 := (x6d 7 (by decide)).trans f7
        have f16 := (x6d 16 (by decide)).trans f16
        refine ⟨τ5.hp.set b (.cells [.nils]), call_of (fl := {}) (fn := Try.f51) (c := bodyC) (env := env) (e := (.normal, (env6, τ5.set (.hp b) (.cells [.nils])))) rfl Try.func51 body henv (by unfold bodyC; exact (execW_seq_of x1a (execW_seq_of x2a (execW_seq_of (execW_seq_of x3a x4a) (execW_seq_of x5a x6a))))) ((fin_none (.inr rfl) rfl rfl).trans (by simp only [AS.set, htk])), by simp [hhp], fun i hi hlt => by rw [hhp, List.getElem?_set_ne (fun e => hi e.symm)], .nils, by rw [hhp, List.getElem?_set_self hb], .inl ⟨rfl, ?_⟩⟩
        rw [hse]; simpa using he
      · simp only at hRe hg hi
        have hi : s.length ≤ im := hi
        rw [hRe] at f6
        obtain ⟨env6, x6a, x6b, x6c, x6d⟩ := rZ2 cx env5 τ5 b im w (((od ++ [(key, l)]).map encRow).length) ((od ++ [(key, l)]).map encRow) X x5b hcx f0 f6 hAz rfl hg 
        have f0 := (x6d 0 (by decide)).trans f0
        have f1 := (x6d 1 (by decide)).trans f1
        have f2 := (x6d 2 (by decide)).trans f2
        have f6 := (x6d 6 (by decide)).trans f6
        have f7 := (x6d 7 (by decide)).trans f7
        have f16 := (x6d 16 (by decide)).trans f16
        refine ⟨(τ5.hp ++ [(AObj.row ((od ++ [(key, l)]).map encRow) 2 w false)]).set b (.cells [.row (.hp τ5.hp.length) w 0 ((od ++ [(key, l)]).map encRow).length]), call_of (fl := {}) (fn := Try.f51) (c := bodyC) (env := env) (e := (.normal, (env6, AS.set (AS.mk (τ5.hp ++ [(AObj.row ((od ++ [(key, l)]).map encRow) 2 w false)]) (τ5.st.set im .dead)) (.hp b) (.cells [.row (.hp τ5.hp.length) w 0 ((od ++ [(key, l)]).map encRow).length])))) rfl Try.func51 body henv (by unfold bodyC; exact (execW_seq_of x1a (execW_seq_of x2a (execW_seq_of (execW_seq_of x3a x4a) (execW_seq_of x5a x6a))))) ((fin_none (.inr rfl) rfl rfl).trans (by simp only [AS.set, List.take_set_of_le hi, htk])), by simp [hhp], fun i hi hlt => by rw [hhp, List.getElem?_set_ne (fun e => hi e.symm), List.getElem?_append_left hlt], .row (.hp τ5.hp.length) w 0 ((od ++ [(key, l)]).map encRow).length, by rw [hhp, List.getElem?_set_self (by simp; omega)], .inr ⟨τ5.hp.length, w, false, ?_, ?_⟩⟩
        · rw [hse]; simp
        · rw [hse, hhp, List.getElem?_set_ne (by omega), List.getElem?_append_right (Nat.le_refl _)]; simp
  · cases x4p
  · cases x4p
end F51
