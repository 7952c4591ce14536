/- Its great loop. -/
import Derived.Test.YtmldaajjeeidjaaCs
open Go Go.Abs Go.Proofs
set_option maxRecDepth 100000
set_option maxHeartbeats 4000000
set_option linter.unusedSimpArgs false
set_option linter.unusedVariables false
namespace F5
/-- A program's acceptor, and what it is. -/
def One (hp : List AObj) (a : Nat) (S : StV) : Prop := ∃ (mm : Nat) (M : List Vt), hp[a]? = some (.cells [.int .u64 S.pr, .int .i64 S.pn, .map (.hp mm)]) ∧ hp[mm]? = some (.map (M.map entV)) ∧ M.Perm S.L
theorem One.append {hp : List AObj} {a : Nat} {S : StV} (h : One hp a S) (l : List AObj) : One (hp ++ l) a S := by
  obtain ⟨mm, M, h1, h2, h3⟩ := h
  have q : ∀ {i : Nat} {o : AObj}, hp[i]? = some o → (hp ++ l)[i]? = some o := fun {i o} h => by rw [List.getElem?_append_left (List.getElem?_eq_some_iff.1 h).1]; exact h
  exact ⟨mm, M, q h1, q h2, h3⟩
theorem votes_of {hp s : List AObj} {a : Nat} {S : StV} (h : One hp a S) (hG : GoodS S) : ∃ hp', callW Try.prog how 19 [.ptr (.hp a) 0, .int .i64 0] ⟨hp, s⟩ none = some (slV 4 (S.L.map encV), ⟨hp', s⟩) ∧ One hp' a S := by
  obtain ⟨mm, M, h1, h2, h3⟩ := h
  have := F19.ok hp s a mm S.pr S.pn 0 M S.L h3 hG.1 (fun x hx => hG.2.1 x (h3.mem_iff.1 hx)) (Nat.le_trans hG.2.2 (by decide)) h1 h2
  rw [from_zero hG] at this
  exact ⟨_, this, One.append ⟨mm, M, h1, h2, h3⟩ _⟩
theorem prep_of {hp s : List AObj} {a : Nat} {S : StV} (r n m : Int) (h : One hp a S) (hG : GoodS S) (hr : 0 ≤ r) : ∃ hp' l, callW Try.prog how 12 [.ptr (.hp a) 0, .agg [.int .u64 r, .int .i64 n], .int .i64 m] ⟨hp, s⟩ none = some (l, ⟨hp', s⟩) ∧ One hp' a (prepS r n m S) := by
  obtain ⟨mm, M, h1, h2, h3⟩ := h
  have hla : a < hp.length := (List.getElem?_eq_some_iff.1 h1).1
  have hne : mm ≠ a := by rintro rfl; rw [h1] at h2; cases h2
  unfold prepS
  rcases F12.ok hp s a r n m S.pr S.pn mm M S.L h3 hG.1 (fun x hx => hG.2.1 x (h3.mem_iff.1 hx)) (Nat.le_trans hG.2.2 (by decide)) h1 h2 hr with ⟨q1, q2⟩ | ⟨q1, q2, q3⟩ | ⟨q1, q2, q3⟩
  · rw [if_neg (by rw [q1]; simp)]
    exact ⟨_, _, q2, mm, M, h1, h2, h3⟩
  · rw [if_pos q1, if_pos q2]
    exact ⟨_, _, q3, mm, M, h1, h2, h3⟩
  · rw [if_pos q1, if_neg (by rw [q2]; simp)]
    refine ⟨_, _, q3, mm, M, ?_, ?_, h3⟩
    · rw [List.getElem?_append_left (by simpa using hla), List.getElem?_set_self hla]
    · rw [List.getElem?_append_left (by rw [List.length_set]; exact (List.getElem?_eq_some_iff.1 h2).1), List.getElem?_set_ne (fun e => hne e.symm)]
      exact h2
theorem acc_of {hp s : List AObj} {a : Nat} {S : StV} (v : Vt) (h : One hp a S) (hG : GoodS S) (hr : 0 ≤ v.r) : ∃ hp' l, callW Try.prog how 8 [.ptr (.hp a) 0, .agg [.int .i64 v.s, .int .u64 v.r, .int .i64 v.n, .str v.v]] ⟨hp, s⟩ none = some (l, ⟨hp', s⟩) ∧ One hp' a (accS v S) := by
  obtain ⟨mm, M, h1, h2, h3⟩ := h
  have hla : a < hp.length := (List.getElem?_eq_some_iff.1 h1).1
  have hne : mm ≠ a := by rintro rfl; rw [h1] at h2; cases h2
  have hfin := there_find (v := v) h3
  obtain ⟨hp1, _, o⟩ := F8.ok hp s a S.pr S.pn v M ⟨mm, h1, h2⟩ hr
  unfold accS
  rcases o with ⟨q1, q2⟩ | ⟨q1, q2, q3⟩ | ⟨q1, q2, q3, q4, q5⟩ | ⟨q1, q2, q3, q4, m', hA', hhp1, hM'⟩
  · rw [if_neg (by rw [q1]; simp)]
    exact ⟨_, _, q2, mm, M, h1, h2, h3⟩
  · rw [if_pos q1, if_pos q2]
    exact ⟨_, _, q3, mm, M, h1, h2, h3⟩
  · rw [if_pos q1, if_neg (by rw [q2]; simp), if_pos ⟨hfin.1 q3, by rw [← h3.length_eq]; exact q4⟩]
    exact ⟨_, _, q5, mm, M, h1, h2, h3⟩
  · have em : m' = mm := by rw [h1] at hA'; cases hA'; rfl
    subst em
    have hn : ¬ ((accV v S.L).2.2 = false ∧ 400 ≤ S.L.length) := fun h => q3 ⟨hfin.2 h.1, by rw [h3.length_eq]; exact h.2⟩
    rw [if_pos q1, if_neg (by rw [q2]; simp), if_neg hn]
    refine ⟨_, _, q4, m', updV v M, ?_, ?_, upd_put h3 hG.1⟩
    · rw [hhp1, List.getElem?_set_ne hne, List.getElem?_set_self hla]
    · rw [hhp1, List.getElem?_set_self (by rw [List.length_set]; exact (List.getElem?_eq_some_iff.1 h2).1)]

noncomputable def oT : Oper := (opsOf (cr [.r, .r, .l, .r, .i, .i, .l])).headD default
noncomputable def oI : List Oper := opsOf (cr [.r, .r, .l, .r, .i, .i, .r, .r, .r])
noncomputable def E : Code := cr [.r, .r, .l, .r, .i, .i, .r, .r, .l, .i, .l]
noncomputable def B : Code := cr [.r, .r, .l, .r, .i, .i, .r, .r, .l, .i, .r, .l]
noncomputable def M6 : Code := cr [.r, .r, .l, .r, .i, .i, .r, .r, .l, .i, .r, .r, .l]
noncomputable def K7 : Code := (cr [.r, .r, .l, .r, .i, .i, .r, .r, .l, .i, .r, .r, .r, .l, .l]).seq (.cond (.tmp 35) (cr [.r, .r, .l, .r, .i, .i, .r, .r, .l, .i, .r, .r, .r, .l, .r, .l]) (cr [.r, .r, .l, .r, .i, .i, .r, .r, .l, .i, .r, .r, .r, .l, .r, .r]))
noncomputable def N10 : Code := cr [.r, .r, .l, .r, .i, .i, .r, .r, .l, .i, .r, .r, .r, .r, .l]
noncomputable def O12 : Code := cr [.r, .r, .l, .r, .i, .i, .r, .r, .l, .i, .r, .r, .r, .r, .r, .l]
noncomputable def Lk : Code := cr [.r, .r, .l, .r, .i, .i, .r, .r, .l, .i, .r, .r, .r, .r, .r, .r, .l]
noncomputable def Lw : Code := cr [.r, .r, .l, .r, .i, .i, .r, .r, .l, .i, .r, .r, .r, .r, .r, .r, .r]
theorem loop_eq : cr [.r, .r, .l, .r] = .block 0 (.loop (.seq (.region 3 #[oT] false) (.seq (.cond (.tmp 23) .skip (.exit 0)) (.seq (.block 1 (E.seq (B.seq (M6.seq (K7.seq (N10.seq (O12.seq (Lk.seq Lw)))))))) (.region 37 #[oI.headD default, (oI.drop 1).headD default] false))))) := by kernel_rfl
theorem body : Try.f5.body = some ((cr [.l]).seq ((cr [.r, .l]).seq (((cr [.r, .r, .l, .l]).seq (cr [.r, .r, .l, .r])).seq ((cr [.r, .r, .r, .l]).seq .ret)))) := by kernel_rfl
def J (x : AV) (k : Nat) (env : Env) (σ : AS) : Prop := Env.get env 3 = .ptr (.hp 1) 0 ∧ Env.get env 20 = x ∧ ∃ S, One σ.hp 1 S ∧ GoodS S ∧ Under S
theorem J_stable {x : AV} : ∀ k env env' σ, env.length = 123 → env'.length = 123 → (∀ i, i ≠ 23 → i ≠ 121 → i ≠ 22 → Env.get env' i = Env.get env i) → J x k env σ → J x k env' σ := by
  rintro k env env' σ _ _ hf ⟨j1, j2, j3⟩
  exact ⟨(hf 3 (by decide) (by decide) (by decide)).trans j1, (hf 20 (by decide) (by decide) (by decide)).trans j2, j3⟩
theorem step (es : List AV) (hes : ∀ e ∈ es, F4.isOp e) :
    ∀ k env σ, k < es.length → env.length = 123 → Env.get env 22 = .int .i64 (k : Int) → Env.get env 21 = .int .i64 (es.length : Int) → J (.sl false 6 es) k env σ → ∃ e env' σ', execW Try.prog cx [2000008] (callW Try.prog how) (.block 1 (E.seq (B.seq (M6.seq (K7.seq (N10.seq (O12.seq (Lk.seq Lw)))))))) (env, σ) = some (e, (env', σ')) ∧
      ((e = .normal ∧ env'.length = 123 ∧ Env.get env' 22 = .int .i64 (k : Int) ∧ Env.get env' 21 = .int .i64 (es.length : Int) ∧ J (.sl false 6 es) (k + 1) env' σ') ∨ (e ≠ .normal ∧ (e = .exit 0 ∧ env'.length = 123))) := by
  rintro k env σ hk hlen f22 f21 ⟨f3, f20, S, hO, hG, hU⟩
  obtain ⟨c, n, v, he, hr⟩ := hes es[k] (List.getElem_mem hk)
  obtain ⟨env1, a1, a2, a3, a4⟩ := rE cx env σ es k c n v hlen rfl f20 f22 hk he rfl (Nat.zero_le _)
  by_cases q : (30 : Int) ≤ (k : Int)
  · obtain ⟨env2, b1, b2, _, b4⟩ := rB cx env1 _ k a2 rfl a3.1 q
    exact ⟨.exit 0, env2, _, block_exit (execW_seq_of a1 (execW_seq_exit b1)) (by simp), .inr ⟨by simp, rfl, b2⟩⟩
  · obtain ⟨env2, b1, b2, _, b4⟩ := rC cx env1 (σ.push false (.cells [.int .i64 c, .int .i64 v.s, .int .u64 v.r, .int .i64 v.n, .str v.v, .int .i64 n])) k a2 rfl a3.1 q
    have hσ : σ.push false (.cells [.int .i64 c, .int .i64 v.s, .int .u64 v.r, .int .i64 v.n, .str v.v, .int .i64 n]) = ⟨σ.hp, σ.st ++ [.cells [.int .i64 c, .int .i64 v.s, .int .u64 v.r, .int .i64 v.n, .str v.v, .int .i64 n]]⟩ := by simp [AS.push]
    rw [hσ] at a1 b1
    have g5 : (AS.mk σ.hp (σ.st ++ [.cells [.int .i64 c, .int .i64 v.s, .int .u64 v.r, .int .i64 v.n, .str v.v, .int .i64 n]])).get (.st σ.st.length) = some (.cells [.int .i64 c, .int .i64 v.s, .int .u64 v.r, .int .i64 v.n, .str v.v, .int .i64 n]) := by simp [AS.get]
    have f5 := (b4 5 (by decide)).trans a3.2
    have fr2 : ∀ i ∈ [3, 20, 21, 22], Env.get env2 i = Env.get env i := by
      intro i hi
      refine (b4 i ?_).trans (a4 i ?_) <;> (revert hi; simp only [List.mem_cons, List.not_mem_nil, or_false]; omega)
    generalize hb : σ.st.length = b at f5 g5
    generalize σ.st ++ [AObj.cells [.int .i64 c, .int .i64 v.s, .int .u64 v.r, .int .i64 v.n, .str v.v, .int .i64 n]] = s1 at a1 b1 g5
    obtain ⟨mm, M, hA, hM, hP⟩ := hO
    have h17 := f17_ok σ.hp s1 none 1 mm S.pr S.pn (fun k hk => by cases hk) hA
    obtain ⟨hp1, h19, hO1⟩ := votes_of (s := s1) ⟨mm, M, hA, hM, hP⟩ hG
    obtain ⟨env3, c1, c2, c3, c4⟩ := rM cx env2 ⟨σ.hp, s1⟩ 1 S.pr S.pn _ σ.hp s1 hp1 b2 rfl ((fr2 3 (by simp)).trans f3) rfl rfl (Nat.zero_le _) h17 h19
    have G5 : ∀ H, (AS.mk H (s1 ++ [.cells [.int .u64 S.pr, .int .i64 S.pn]])).get (.st b) = some (.cells [.int .i64 c, .int .i64 v.s, .int .u64 v.r, .int .i64 v.n, .str v.v, .int .i64 n]) := by
      intro H
      simp only [AS.get] at g5 ⊢
      rw [List.getElem?_append_left (List.getElem?_eq_some_iff.1 g5).1]
      exact g5
    have G6 : ∀ H, (AS.mk H (s1 ++ [.cells [.int .u64 S.pr, .int .i64 S.pn]])).get (.st s1.length) = some (.cells [.int .u64 S.pr, .int .i64 S.pn]) := fun H => by simp [AS.get]
    have f5 := (c4 5 (by decide)).trans f5
    have f6 := c3.1
    generalize s1.length = b6 at f6 G6 c3
    generalize s1 ++ [AObj.cells [.int .u64 S.pr, .int .i64 S.pn]] = s2 at c1 G5 G6
    have f3' := (c4 3 (by decide)).trans ((fr2 3 (by simp)).trans f3)
    obtain ⟨env4, d1, d2, d3, d4⟩ := r7 cx env3 ⟨hp1, s2⟩ b c n v c2 rfl f5 (G5 hp1)
    have key : ∃ env5 hp2 S', execW Try.prog cx [2000008] (callW Try.prog how) K7 (env3, ⟨hp1, s2⟩) = some (.normal, (env5, ⟨hp2, s2⟩)) ∧ env5.length = 123 ∧ (∀ i ∈ [3, 6, 7, 20, 21, 22], Env.get env5 i = Env.get env3 i) ∧ One hp2 1 S' ∧ GoodS S' ∧ Under S' ∧ Rose S S' := by
      by_cases hc : c = 0
      · rw [decide_eq_true hc] at d3
        obtain ⟨hp2, l, h12, hO2⟩ := prep_of (s := s2) v.r v.n n hO1 hG hr
        obtain ⟨env5, e1, e2, _, e4⟩ := m8 0 none hp1 s2 env4 1 b c n v hp2 l d2 ((d4 3 (by decide)).trans f3') ((d4 5 (by decide)).trans f5) G5 (f13_ok hp1 s2 none v.r v.n (fun k hk => by cases hk)) h12
        refine ⟨env5, hp2, _, execW_seq_of d1 (execW_cond_t (by rw [ev_tmp d3]) e1), e2, fun i hi => ?_, hO2, good_prep hG, (rose_prep hU).2, (rose_prep hU).1⟩
        refine (e4 i ?_).trans (d4 i ?_) <;> (revert hi; simp only [List.mem_cons, List.not_mem_nil, or_false]; omega)
      · rw [decide_eq_false hc] at d3
        obtain ⟨hp2, l, h8, hO2⟩ := acc_of (s := s2) v hO1 hG hr
        obtain ⟨env5, e1, e2, _, e4⟩ := r9 cx env4 ⟨hp1, s2⟩ 1 b c n v l ⟨hp2, s2⟩ d2 rfl ((d4 3 (by decide)).trans f3') ((d4 5 (by decide)).trans f5) (G5 hp1) (f9_ok hp1 s2 none v.s v.r v.n v.v (fun k hk => by cases hk)) h8
        refine ⟨env5, hp2, _, execW_seq_of d1 (execW_cond_f (by rw [ev_tmp d3]) e1), e2, fun i hi => ?_, hO2, good_acc hG, (rose_acc hU hG).2, (rose_acc hU hG).1⟩
        refine (e4 i ?_).trans (d4 i ?_) <;> (revert hi; simp only [List.mem_cons, List.not_mem_nil, or_false]; omega)
    obtain ⟨env5, hp2, S', e1, e2, e4, hO2, hG', hU', hRo⟩ := key
    obtain ⟨mm', M', hA', hM', hP'⟩ := hO2
    have L0 : ∀ k, some s2.length = some k → k ≤ s2.length := fun k hk => by cases hk; exact Nat.le_refl _
    have h14 := f14_ok hp2 s2 (some s2.length) S'.pr S'.pn S.pr S.pn L0
    rw [hRo.pr] at h14
    have f3' := (e4 3 (by simp)).trans f3'
    obtain ⟨env6, i1, i2, _, i4⟩ := r10 cx env5 ⟨hp2, s2⟩ 1 b6 S.pr S.pn S'.pr S'.pn e2 rfl f3' ((e4 6 (by simp)).trans f6) (G6 hp2) (f17_ok hp2 s2 (some s2.length) 1 mm' S'.pr S'.pn L0 hA') (f16_ok hp2 s2 (some s2.length) S'.pr S'.pn L0) (f16_ok hp2 s2 (some s2.length) S.pr S.pn L0) h14
    obtain ⟨hp3, h19b, hO3⟩ := votes_of (s := s2) ⟨mm', M', hA', hM', hP'⟩ hG'
    obtain ⟨env7, j1, j2, j3, j4⟩ := r12 cx env6 ⟨hp2, s2⟩ 1 _ ⟨hp3, s2⟩ i2 rfl ((i4 3 (by decide)).trans f3') h19b
    have fr7 : ∀ i ∈ [3, 6, 7, 20, 21, 22], Env.get env7 i = Env.get env3 i := by
      intro i hi
      refine (j4 i ?_).trans ((i4 i ?_).trans (e4 i hi)) <;> (revert hi; simp only [List.mem_cons, List.not_mem_nil, or_false]; omega)
    have hle : ∀ T : StV, GoodS T → T.L.length ≤ 9223372036854775807 := fun T hT => Nat.le_trans hT.2.2 (by decide)
    obtain ⟨env8, σ8, l1, l2, l3, l4⟩ := k_ok env7 ⟨hp3, s2⟩ S.L S'.L (hle S hG) (hle S' hG') j2 ((fr7 7 (by simp)).trans c3.2) j3 (fun y hy => by
      obtain ⟨z, hz, e1, e2⟩ := hRo.kept y hy
      exact List.any_eq_true.2 ⟨z, hz, by simp [okK, e1, e2]⟩)
    obtain ⟨env9, σ9, m1, m2, m3, m4⟩ := w_ok env8 σ8 S'.L S.L (hle S' hG') (hle S hG) l2 ((l3 8 (by simp)).trans j3) ((l3 7 (by simp)).trans ((fr7 7 (by simp)).trans c3.2)) b6 S.pr S.pn ((l3 6 (by simp)).trans ((fr7 6 (by simp)).trans f6)) (l4.get (G6 hp3)) (fun y hy => by
      rcases hRo.had y hy with h | h
      · exact .inl (List.any_eq_true.2 ⟨y, h, by simp [okH]⟩)
      · exact .inr h)
    have frE : ∀ i ∈ [3, 20, 21, 22], Env.get env9 i = Env.get env i := by
      intro i hi
      have h1 : i ∈ [3, 4, 5, 6, 7, 8, 20, 21, 22] := by revert hi; simp only [List.mem_cons, List.not_mem_nil, or_false]; omega
      have h2 : i ∈ [3, 6, 7, 20, 21, 22] := by revert hi; simp only [List.mem_cons, List.not_mem_nil, or_false]; omega
      refine (m3 i h1).trans ((l3 i h1).trans ((fr7 i h2).trans ((c4 i ?_).trans (fr2 i hi))))
      revert hi; simp only [List.mem_cons, List.not_mem_nil, or_false]; omega
    have hhp : σ9.hp = hp3 := (l4.trans m4).1
    exact ⟨.normal, env9, σ9, execW_block_of (execW_seq_of a1 (execW_seq_of b1 (execW_seq_of c1 (execW_seq_of e1 (execW_seq_of i1 (execW_seq_of j1 (execW_seq_of l1 m1))))))), .inl ⟨rfl, m2, (frE 22 (by simp)).trans f22, (frE 21 (by simp)).trans f21, (frE 3 (by simp)).trans f3, (frE 20 (by simp)).trans f20, S', by rw [hhp]; exact hO3, hG', hU'⟩⟩
end F5
