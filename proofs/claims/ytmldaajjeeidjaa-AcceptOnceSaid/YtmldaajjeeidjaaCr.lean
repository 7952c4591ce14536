/- The law AcceptOnce, run. -/
import Derived.Test.YtmldaajjeeidjaaCq
open Go Go.Abs Go.Proofs
set_option maxRecDepth 100000
set_option maxHeartbeats 4000000
set_option linter.unusedSimpArgs false
set_option linter.unusedVariables false
namespace F3
noncomputable def R9 : Code := cr [.r, .r, .r, .l, .r, .l, .l]
noncomputable def R12 : Code := cr [.r, .r, .r, .r, .r, .l, .r, .l, .l]
theorem body : Try.f3.body = some ((cr [.l]).seq ((cr [.r, .l]).seq (((cr [.r, .r, .l, .l]).seq (cr [.r, .r, .l, .r])).seq (((cr [.r, .r, .r, .l, .l]).seq (.cond (.tmp 34) (R9.seq .ret) .skip)).seq ((cr [.r, .r, .r, .r, .l]).seq (((cr [.r, .r, .r, .r, .r, .l, .l]).seq (.cond (.tmp 52) (R12.seq .ret) .skip)).seq ((cr [.r, .r, .r, .r, .r, .r, .l]).seq .ret))))))) := by kernel_rfl
noncomputable def oT : Oper := (opsOf (cr [.r, .r, .l, .r, .i, .i, .l])).headD default
noncomputable def oI : List Oper := opsOf (cr [.r, .r, .l, .r, .i, .i, .r, .r, .r])
noncomputable def E : Code := cr [.r, .r, .l, .r, .i, .i, .r, .r, .l, .i, .l]
noncomputable def B : Code := cr [.r, .r, .l, .r, .i, .i, .r, .r, .l, .i, .r]
theorem loop_eq : cr [.r, .r, .l, .r] = .block 0 (.loop (.seq (.region 3 #[oT] false) (.seq (.cond (.tmp 19) .skip (.exit 0)) (.seq (.block 1 (E.seq B)) (.region 7 #[oI.headD default, (oI.drop 1).headD default] false))))) := by kernel_rfl
/-- What holds ahead of each round. -/
def J (v : Vt) (br bn : Int) (x : AV) (k : Nat) (env : Env) (σ : AS) : Prop :=
  (Env.get env 4 = .ptr (.st 0) 0 ∧ Env.get env 5 = .ptr (.st 1) 0 ∧ Env.get env 7 = .ptr (.hp 1) 0 ∧ Env.get env 8 = .ptr (.hp 2) 0 ∧ Env.get env 16 = x) ∧ σ.get (.st 0) = some (.cells (encV v).cells) ∧ σ.get (.st 1) = some (.cells [.int .u64 br, .int .i64 bn]) ∧ ∃ S, F7.Two σ.hp 1 2 S ∧ GoodS S
theorem J_stable {v : Vt} {br bn : Int} {x : AV} : ∀ k env env' σ, env.length = 89 → env'.length = 89 → (∀ i, i ≠ 19 → i ≠ 29 → i ≠ 18 → Env.get env' i = Env.get env i) → J v br bn x k env σ → J v br bn x k env' σ := by
  rintro k env env' σ _ _ hf ⟨⟨j1, j2, j3, j4, j5⟩, j6⟩
  exact ⟨⟨(hf 4 (by decide) (by decide) (by decide)).trans j1, (hf 5 (by decide) (by decide) (by decide)).trans j2, (hf 7 (by decide) (by decide) (by decide)).trans j3, (hf 8 (by decide) (by decide) (by decide)).trans j4, (hf 16 (by decide) (by decide) (by decide)).trans j5⟩, j6⟩
def cx : Cx := { h := 0, ro := none, esc := [15] }
theorem step (v : Vt) (br bn : Int) (es : List AV) (hes : ∀ e ∈ es, F4.isOp e) :
    ∀ k env σ, k < es.length → env.length = 89 → Env.get env 18 = .int .i64 (k : Int) → Env.get env 17 = .int .i64 (es.length : Int) → J v br bn (.sl false 6 es) k env σ → ∃ e env' σ', execW Try.prog cx [2000010, 2000013] (callW Try.prog how) (.block 1 (E.seq B)) (env, σ) = some (e, (env', σ')) ∧
      ((e = .normal ∧ env'.length = 89 ∧ Env.get env' 18 = .int .i64 (k : Int) ∧ Env.get env' 17 = .int .i64 (es.length : Int) ∧ J v br bn (.sl false 6 es) (k + 1) env' σ') ∨ (e ≠ .normal ∧ False)) := by
  rintro k env σ hk hlen f18 f17 ⟨⟨f4, f5, f7, f8, f16⟩, g4, g5, S, hT, hG⟩
  obtain ⟨c, n, w, he, hr⟩ := hes es[k] (List.getElem_mem hk)
  obtain ⟨env1, a1, a2, a3, a4⟩ := rE cx env σ es k c n w hlen rfl f16 f18 hk he rfl (Nat.zero_le _)
  have fr1 : ∀ i, i ∉ [9, 10, 20, 21, 22] → Env.get env1 i = Env.get env i := fun i hi => a4 i (by revert hi; simp only [List.mem_cons, List.not_mem_nil, or_false]; omega)
  have g4' := get_push' (ob' := .cells [.int .i64 c, .int .i64 w.s, .int .u64 w.r, .int .i64 w.n, .str w.v, .int .i64 n]) g4
  have g5' := get_push' (ob' := .cells [.int .i64 c, .int .i64 w.s, .int .u64 w.r, .int .i64 w.n, .str w.v, .int .i64 n]) g5
  have g10 : (σ.push false (.cells [.int .i64 c, .int .i64 w.s, .int .u64 w.r, .int .i64 w.n, .str w.v, .int .i64 n])).get (.st σ.st.length) = some (.cells [.int .i64 c, .int .i64 w.s, .int .u64 w.r, .int .i64 w.n, .str w.v, .int .i64 n]) := AS.get_push_at rfl
  have hhp : (σ.push false (.cells [.int .i64 c, .int .i64 w.s, .int .u64 w.r, .int .i64 w.n, .str w.v, .int .i64 n])).hp = σ.hp := by simp [AS.push]
  generalize hb : σ.st.length = b at a3 g10
  generalize σ.push false (.cells [.int .i64 c, .int .i64 w.s, .int .u64 w.r, .int .i64 w.n, .str w.v, .int .i64 n]) = σ1 at a1 g4' g5' g10 hhp
  by_cases q : (k : Int) < 15
  · obtain ⟨hp1, h7, hT1⟩ := F7.ok σ1.hp σ1.st 1 2 c n w S (by rw [hhp]; exact hT) hG hr
    obtain ⟨env2, b1, b2, _, b4⟩ := rS1 cx env1 σ1 1 2 b k c n w ⟨hp1, σ1.st⟩ a2 rfl ((fr1 7 (by decide)).trans f7) ((fr1 8 (by decide)).trans f8) a3.1 a3.2 q g10 h7
    have fr : ∀ i, i ≤ 18 → i ≠ 9 → i ≠ 10 → Env.get env2 i = Env.get env i := fun i h1 h2 h3 => (b4 i (by simp only [List.mem_cons, List.not_mem_nil, or_false, not_or]; omega)).trans (fr1 i (by simp only [List.mem_cons, List.not_mem_nil, or_false, not_or]; omega))
    exact ⟨.normal, env2, _, execW_block_of (execW_seq_of a1 b1), .inl ⟨rfl, b2, (fr 18 (by decide) (by decide) (by decide)).trans f18, (fr 17 (by decide) (by decide) (by decide)).trans f17, ⟨(fr 4 (by decide) (by decide) (by decide)).trans f4, (fr 5 (by decide) (by decide) (by decide)).trans f5, (fr 7 (by decide) (by decide) (by decide)).trans f7, (fr 8 (by decide) (by decide) (by decide)).trans f8, (fr 16 (by decide) (by decide) (by decide)).trans f16⟩, g4', g5', _, hT1, good_op hG⟩⟩
  · obtain ⟨env2, b1, b2, _, b4⟩ := rS0 cx env1 σ1 k a2 rfl a3.1 q
    have fr : ∀ i, i ≤ 18 → i ≠ 9 → i ≠ 10 → Env.get env2 i = Env.get env i := fun i h1 h2 h3 => (b4 i (by simp only [List.mem_cons, List.not_mem_nil, or_false, not_or]; omega)).trans (fr1 i (by simp only [List.mem_cons, List.not_mem_nil, or_false, not_or]; omega))
    exact ⟨.normal, env2, _, execW_block_of (execW_seq_of a1 b1), .inl ⟨rfl, b2, (fr 18 (by decide) (by decide) (by decide)).trans f18, (fr 17 (by decide) (by decide) (by decide)).trans f17, ⟨(fr 4 (by decide) (by decide) (by decide)).trans f4, (fr 5 (by decide) (by decide) (by decide)).trans f5, (fr 7 (by decide) (by decide) (by decide)).trans f7, (fr 8 (by decide) (by decide) (by decide)).trans f8, (fr 16 (by decide) (by decide) (by decide)).trans f16⟩, g4', g5', S, by rw [hhp]; exact hT, hG⟩⟩
theorem from_put {v : Vt} {L : List Vt} (h : Rising L) : fromV (F10.putV v L) v.s = v :: L.filter fun x => decide (v.s < x.s) := by
  rw [putV_eq h]
  unfold fromV
  rw [List.filter_append, List.filter_cons, if_pos (by simp)]
  have h1 : (L.filter fun x => decide (x.s < v.s)).filter (fun x => decide (v.s ≤ x.s)) = [] := by
    rw [List.filter_eq_nil_iff]
    intro x hx
    have := (List.mem_filter.1 hx).2
    simp at this ⊢
    exact this
  have h2 : (L.filter fun x => decide (v.s < x.s)).filter (fun x => decide (v.s ≤ x.s)) = L.filter fun x => decide (v.s < x.s) := by
    rw [List.filter_eq_self]
    intro x hx
    have := (List.mem_filter.1 hx).2
    simp at this ⊢
    omega
  rw [h1, h2]
  rfl
/-- Behind the calls: the vote is put, a ballot is prepared. -/
theorem tail_ok (v : Vt) (br bn : Int) (hvr : 0 ≤ v.r) (hbr : 0 ≤ br) (x : AV) (k : Nat) (env : Env) (σ : AS) (hlen : env.length = 89) (hJ : J v br bn x k env σ) :
    ∃ e σ', execW Try.prog cx [2000010, 2000013] (callW Try.prog how) (((cr [.r, .r, .r, .l, .l]).seq (.cond (.tmp 34) (R9.seq .ret) .skip)).seq ((cr [.r, .r, .r, .r, .l]).seq (((cr [.r, .r, .r, .r, .r, .l, .l]).seq (.cond (.tmp 52) (R12.seq .ret) .skip)).seq ((cr [.r, .r, .r, .r, .r, .r, .l]).seq .ret)))) (env, σ) = some (.ret, (e, σ')) ∧ Env.get e 6 = .bool true := by
  obtain ⟨⟨f4, f5, f7, f8, _⟩, g4, g5, S, hT, hG⟩ := hJ
  obtain ⟨hp, s⟩ := σ
  have G4 : ∀ H, (AS.mk H s).get (.st 0) = some (.cells (encV v).cells) := fun H => g4
  have G5 : ∀ H, (AS.mk H s).get (.st 1) = some (.cells [.int .u64 br, .int .i64 bn]) := fun H => g5
  obtain ⟨mm, M, X, hA, hM, hP, hR, hX, hne⟩ := hT
  have hok : ∀ y ∈ M, SlotOk y := fun y hy => hG.2.1 y (hP.mem_iff.1 hy)
  have h9 := f9_ok hp s none v.s v.r v.n v.v (fun k hk => by cases hk)
  have hfin := there_find (v := v) hP
  have hla : 1 < hp.length := (List.getElem?_eq_some_iff.1 hA).1
  have hmma : mm ≠ 1 := by rintro rfl; rw [hA] at hM; cases hM
  obtain ⟨hp1, _, o⟩ := F8.ok hp s 1 S.pr S.pn v M ⟨mm, hA, hM⟩ hvr
  have fail : ∀ (c : Int), ¬ c = 0 → callW Try.prog how 8 [.ptr (.hp 1) 0, .agg [.int .i64 v.s, .int .u64 v.r, .int .i64 v.n, .str v.v]] ⟨hp, s⟩ none = some (.int .i64 c, ⟨hp, s⟩) → (∃ hp2, callW Try.prog how 10 [.ptr (.hp 2) 0, .agg [.int .i64 v.s, .int .u64 v.r, .int .i64 v.n, .str v.v]] ⟨hp, s⟩ none = some (.int .i64 c, ⟨hp2, s⟩)) →
      ∃ e σ', execW Try.prog cx [2000010, 2000013] (callW Try.prog how) (((cr [.r, .r, .r, .l, .l]).seq (.cond (.tmp 34) (R9.seq .ret) .skip)).seq ((cr [.r, .r, .r, .r, .l]).seq (((cr [.r, .r, .r, .r, .r, .l, .l]).seq (.cond (.tmp 52) (R12.seq .ret) .skip)).seq ((cr [.r, .r, .r, .r, .r, .r, .l]).seq .ret)))) (env, ⟨hp, s⟩) = some (.ret, (e, σ')) ∧ Env.get e 6 = .bool true := by
    intro c hc h8 ⟨hp2, h10⟩
    obtain ⟨env1, a1, a2, a3, a4⟩ := rV cx env ⟨hp, s⟩ 1 0 c v _ hlen rfl f4 f7 g4 h9 h8
    rw [decide_eq_false hc] at a3
    obtain ⟨hp3, h11⟩ := f11_ok hp2 s
    obtain ⟨env2, b1, b2, b3, b4⟩ := r9 cx env1 ⟨hp, s⟩ 2 0 c v ⟨hp2, s⟩ ⟨hp3, s⟩ a2 rfl ((a4 4 (by decide)).trans f4) ((a4 8 (by decide)).trans f8) g4 h10 hc h11
    exact ⟨env2, _, execW_seq_ret (execW_seq_of a1 (execW_cond_t (by rw [ev_tmp a3]; rfl) (execW_seq_of (b := .ret) b1 rfl))), b3⟩
  have hL4 := hG.2.2
  rcases o with ⟨q1, q2⟩ | ⟨q1, q2, q3⟩ | ⟨q1, q2, q3, q4, q5⟩ | ⟨q1, q2, q3, q4, m', hA', hhp1, hM'⟩
  · obtain ⟨hp2, hK, o2⟩ := F10.ok hp s 2 S.pr S.pn v S.L ⟨X, hR, hX⟩ hL4 hvr
    have o2' := o2.resolve_right (by rintro (⟨p, _⟩ | ⟨p, _⟩ | ⟨p, _⟩) <;> · rw [q1] at p; cases p)
    exact fail 1 (by decide) q2 ⟨hp2, o2'.2.1⟩
  · obtain ⟨hp2, hK, o2⟩ := F10.ok hp s 2 S.pr S.pn v S.L ⟨X, hR, hX⟩ hL4 hvr
    have o2' := (o2.resolve_left (fun h => by rw [q1] at h; cases h.1)).resolve_right (by rintro (⟨_, p, _⟩ | ⟨_, p, _⟩) <;> · rw [q2] at p; cases p)
    exact fail 13 (by decide) q3 ⟨hp2, o2'.2.2.1⟩
  · have hth := hfin.1 q3
    have hle : 400 ≤ S.L.length := by rw [← hP.length_eq]; exact q4
    obtain ⟨hp2, hK, o2⟩ := F10.ok hp s 2 S.pr S.pn v S.L ⟨X, hR, hX⟩ hL4 hvr
    have o2' := ((o2.resolve_left (fun h => by rw [q1] at h; cases h.1)).resolve_left (fun h => by rw [q2] at h; cases h.2.1)).resolve_right (by rintro ⟨_, _, p, _⟩; exact p ⟨hth, hle⟩)
    exact fail 9 (by decide) q5 ⟨hp2, o2'.2.2.2.2.1⟩
  · have em : m' = mm := by rw [hA] at hA'; cases hA'; rfl
    subst em
    have hn : ¬ ((accV v S.L).2.2 = false ∧ 400 ≤ S.L.length) := fun h => q3 ⟨hfin.2 h.1, by rw [hP.length_eq]; exact h.2⟩
    have hS : accS v S = ⟨v.r, v.n, F10.putV v S.L⟩ := by
      unfold accS
      rw [if_pos q1, if_neg (by rw [q2]; simp), if_neg hn]
    have hG1 := good_acc (v := v) hG
    rw [hS] at hG1
    have hP1 := upd_put (v := v) hP hG.1
    have hA1 : hp1[1]? = some (.cells [.int .u64 v.r, .int .i64 v.n, .map (.hp m')]) := by
      rw [hhp1, List.getElem?_set_ne hmma, List.getElem?_set_self hla]
    have hM1 : hp1[m']? = some (.map ((updV v M).map entV)) := by
      rw [hhp1, List.getElem?_set_self (by rw [List.length_set]; exact (List.getElem?_eq_some_iff.1 hM).1)]
    obtain ⟨env1, a1, a2, a3, a4⟩ := rV cx env ⟨hp, s⟩ 1 0 0 v _ hlen rfl f4 f7 g4 h9 q4
    have x1 : execW Try.prog cx [2000010, 2000013] (callW Try.prog how) ((cr [.r, .r, .r, .l, .l]).seq (.cond (.tmp 34) (R9.seq .ret) .skip)) (env, ⟨hp, s⟩) = some (.normal, (env1, ⟨hp1, s⟩)) := execW_seq_of a1 (execW_cond_f (by rw [ev_tmp a3]; rfl) rfl)
    have f4 := (a4 4 (by decide)).trans f4
    have f5 := (a4 5 (by decide)).trans f5
    have f7 := (a4 7 (by decide)).trans f7
    have h13 := f13_ok hp1 s none br bn (fun k hk => by cases hk)
    have hok1 : ∀ y ∈ updV v M, SlotOk y := fun y hy => hG1.2.1 y (hP1.mem_iff.1 hy)
    have refuse : ∀ (e : Int) (l : AV), ¬ e = 0 → callW Try.prog how 12 [.ptr (.hp 1) 0, .agg [.int .u64 br, .int .i64 bn], .int .i64 v.s] ⟨hp1, s⟩ none = some (.tup [l, .int .i64 e], ⟨hp1, s⟩) → (lessB br bn v.r v.n = true ∨ br = 0 ∨ bn < 0 ∨ 4 < bn) →
        ∃ e σ', execW Try.prog cx [2000010, 2000013] (callW Try.prog how) (((cr [.r, .r, .r, .l, .l]).seq (.cond (.tmp 34) (R9.seq .ret) .skip)).seq ((cr [.r, .r, .r, .r, .l]).seq (((cr [.r, .r, .r, .r, .r, .l, .l]).seq (.cond (.tmp 52) (R12.seq .ret) .skip)).seq ((cr [.r, .r, .r, .r, .r, .r, .l]).seq .ret)))) (env, ⟨hp, s⟩) = some (.ret, (e, σ')) ∧ Env.get e 6 = .bool true := by
      intro e l he h12 hc
      obtain ⟨env2, b1, b2, b3, b4⟩ := m10 0 none hp1 s env1 1 0 1 br bn v hp1 l _ a2 f4 f5 f7 G4 G5 h13 h12
      obtain ⟨env3, c1, c2, c3, c4⟩ := r11 cx env2 ⟨hp1, s⟩ e b2 rfl b3.2
      rw [decide_eq_false he] at c3
      have f4 := (c4 4 (by decide)).trans ((b4 4 (by decide)).trans f4)
      have f5 := (c4 5 (by decide)).trans ((b4 5 (by decide)).trans f5)
      have h14 := f14_ok hp1 s none br bn v.r v.n (fun k hk => by cases hk)
      obtain ⟨hp3, h11⟩ := f11_ok hp1 s
      have key : ∃ env4, execW Try.prog cx [2000010, 2000013] (callW Try.prog how) R12 (env3, ⟨hp1, s⟩) = some (.normal, (env4, ⟨hp3, s⟩)) ∧ Env.get env4 6 = .bool true := by
        cases hle : lessB br bn v.r v.n with
        | true =>
          rw [hle] at h14
          obtain ⟨env4, d1, _, d3, _⟩ := r12a cx env3 ⟨hp1, s⟩ 0 1 br bn v ⟨hp3, s⟩ c2 rfl f4 f5 (G4 hp1) (G5 hp1) h14 h11
          exact ⟨env4, d1, d3⟩
        | false =>
          rw [hle] at h14 hc
          by_cases z1 : br = 0
          · subst z1
            obtain ⟨env4, d1, _, d3, _⟩ := r12b cx env3 ⟨hp1, s⟩ 0 1 bn v ⟨hp3, s⟩ c2 rfl f4 f5 (G4 hp1) (G5 hp1) h14 h11
            exact ⟨env4, d1, d3⟩
          · by_cases z2 : bn < 0
            · obtain ⟨env4, d1, _, d3, _⟩ := r12c cx env3 ⟨hp1, s⟩ 0 1 br bn v ⟨hp3, s⟩ c2 rfl f4 f5 (G4 hp1) (G5 hp1) z1 z2 h14 h11
              exact ⟨env4, d1, d3⟩
            · have z3 : 4 < bn := by
                rcases hc with h | h | h | h
                · cases h
                · exact absurd h z1
                · exact absurd h z2
                · exact h
              obtain ⟨env4, d1, _, d3, _⟩ := r12d cx env3 ⟨hp1, s⟩ 0 1 br bn v ⟨hp3, s⟩ c2 rfl f4 f5 (G4 hp1) (G5 hp1) z1 z2 z3 h14 h11
              exact ⟨env4, d1, d3⟩
      obtain ⟨env4, d1, d3⟩ := key
      exact ⟨env4, _, execW_seq_of x1 (execW_seq_of b1 (execW_seq_ret (execW_seq_of c1 (execW_cond_t (by rw [ev_tmp c3]; rfl) (execW_seq_of (b := .ret) d1 rfl))))), d3⟩
    rcases F12.ok hp1 s 1 br bn v.s v.r v.n m' (updV v M) (F10.putV v S.L) hP1 hG1.1 hok1 (Nat.le_trans hG1.2.2 (by decide)) hA1 hM1 hbr with ⟨p1, p2⟩ | ⟨p1, p2, p3⟩ | ⟨p1, p2, p3⟩
    · refine refuse 1 _ (by decide) p2 (.inr ?_)
      have hs := (voteOk_slot q1).1
      rw [decide_eq_true hs, Bool.and_true] at p1
      simp only [askedB, Bool.and_eq_false_iff, decide_eq_false_iff_not] at p1
      omega
    · exact refuse 13 _ (by decide) p3 (.inl p2)
    · rw [from_put hG.1] at p3
      obtain ⟨env2, b1, b2, b3, b4⟩ := m10 0 none hp1 s env1 1 0 1 br bn v _ _ _ a2 f4 f5 f7 G4 G5 h13 p3
      obtain ⟨env3, c1, c2, c3, c4⟩ := r11 cx env2 ⟨_, s⟩ 0 b2 rfl b3.2
      have f4 := (c4 4 (by decide)).trans ((b4 4 (by decide)).trans f4)
      have f11 : Env.get env3 11 = .sl false 4 (.agg [.int .i64 v.s, .int .u64 v.r, .int .i64 v.n, .str v.v] :: (S.L.filter fun x => decide (v.s < x.s)).map encV) := (c4 11 (by decide)).trans (b3.1.trans rfl)
      obtain ⟨hp3, h11⟩ := f11_ok (hp1.set 1 (.cells [.int .u64 br, .int .i64 bn, .map (.hp m')]) ++ [.cells [.map (.hp m')]]) s
      have h15 := f15_ok (hp1.set 1 (.cells [.int .u64 br, .int .i64 bn, .map (.hp m')]) ++ [.cells [.map (.hp m')]]) s none v.s v.r v.n v.v (fun k hk => by cases hk)
      obtain ⟨env4, d1, d2, d3, d4⟩ := m13 0 none _ s env3 0 1 br bn v ((S.L.filter fun x => decide (v.s < x.s)).map encV) hp3 c2 f4 f11 G4 G5 h15 h11
      exact ⟨env4, _, execW_seq_of x1 (execW_seq_of b1 (execW_seq_of (execW_seq_of c1 (execW_cond_f (by rw [ev_tmp c3]; rfl) rfl)) (execW_seq_of (b := .ret) d1 rfl))), d3⟩
theorem fin_code (st' : AS) (e : Env) (b : Bool) (h6 : Env.get e 6 = .bool b) : ∃ σ', finishA Try.prog { esc := [15], tails := [2000010, 2000013] } Try.f3 0 (some (.ret, (e, st'))) = some (.bool b, σ') := by
  refine ⟨⟨st'.hp, st'.st.take 0⟩, ?_⟩
  simp -implicitDefEqProofs [finishA, resA, Try.f3, h6, oneA, AV.back, AV.inb]
theorem ok (x : AV) (v : Vt) (br bn : Int) (hx : F4.isOps x) (hvr : 0 ≤ v.r) (hbr : 0 ≤ br) : ∃ σ', callW Try.prog how 3 [x, .agg [.int .i64 v.s, .int .u64 v.r, .int .i64 v.n, .str v.v], .agg [.int .u64 br, .int .i64 bn]] ⟨[], []⟩ none = some (.bool true, σ') := by
  have henv : ∃ e, e = frameA Try.f3 [x, .agg [.int .i64 v.s, .int .u64 v.r, .int .i64 v.n, .str v.v], .agg [.int .u64 br, .int .i64 bn]] := ⟨_, rfl⟩
  obtain ⟨env, henv⟩ := henv
  have hl : env.length = 89 := by rw [henv]; rfl
  have h0 : Env.get env 0 = x := by rw [henv]; rfl
  have h1 : Env.get env 1 = .agg [.int .i64 v.s, .int .u64 v.r, .int .i64 v.n, .str v.v] := by rw [henv]; rfl
  have h2 : Env.get env 2 = .agg [.int .u64 br, .int .i64 bn] := by rw [henv]; rfl
  suffices h : ∃ e σ', execW Try.prog cx [2000010, 2000013] (callW Try.prog how) ((cr [.l]).seq ((cr [.r, .l]).seq (((cr [.r, .r, .l, .l]).seq (cr [.r, .r, .l, .r])).seq (((cr [.r, .r, .r, .l, .l]).seq (.cond (.tmp 34) (R9.seq .ret) .skip)).seq ((cr [.r, .r, .r, .r, .l]).seq (((cr [.r, .r, .r, .r, .r, .l, .l]).seq (.cond (.tmp 52) (R12.seq .ret) .skip)).seq ((cr [.r, .r, .r, .r, .r, .r, .l]).seq .ret))))))) (env, ⟨[], []⟩) = some (.ret, (e, σ')) ∧ Env.get e 6 = .bool true by
    obtain ⟨e, σ1, hr, h6⟩ := h
    obtain ⟨σ', hf⟩ := fin_code σ1 e true h6
    refine ⟨σ', callW_body (fl := { esc := [15], tails := [2000010, 2000013] }) (fn := Try.f3) rfl Try.func3 body ?_⟩
    rw [← henv]
    exact (congrArg (finishA Try.prog { esc := [15], tails := [2000010, 2000013] } Try.f3 0) hr).trans hf
  clear henv
  obtain ⟨env1, a1, a2, a3, a4⟩ := rA cx env ⟨[], []⟩ v br bn hl rfl h1 h2
  have hσ : ((AS.mk [] []).push false (.cells (encV v).cells)).push false (.cells [.int .u64 br, .int .i64 bn]) = ⟨[], [.cells (encV v).cells, .cells [.int .u64 br, .int .i64 bn]]⟩ := rfl
  rw [hσ] at a1
  obtain ⟨env2, b1, b2, b3, b4⟩ := rN cx env1 ⟨[], [.cells (encV v).cells, .cells [.int .u64 br, .int .i64 bn]]⟩ [] _ a2 rfl (f6_ok [] _) rfl rfl
  have f0 := (b4 0 (by decide)).trans ((a4 0 (by decide)).trans h0)
  have f4 := (b4 4 (by decide)).trans a3.1
  have f5 := (b4 5 (by decide)).trans a3.2.1
  simp only [List.length_nil, List.nil_append, Nat.zero_add] at b1 b3
  have hT : F7.Two [AObj.map [], AObj.cells [.int .u64 0, .int .i64 0, .map (.hp 0)], AObj.cells [.int .u64 0, .int .i64 0, .nils]] 1 2 ⟨0, 0, []⟩ := ⟨0, [], .nils, rfl, rfl, List.Perm.refl _, rfl, .inl ⟨rfl, rfl⟩, by decide⟩
  have hG : GoodS ⟨0, 0, []⟩ := ⟨List.Pairwise.nil, fun v hv => (by cases hv), by simp⟩
  generalize hst : AS.mk [AObj.map [], AObj.cells [.int .u64 0, .int .i64 0, .map (.hp 0)], AObj.cells [.int .u64 0, .int .i64 0, .nils]] [.cells (encV v).cells, .cells [.int .u64 br, .int .i64 bn]] = σ2 at b1
  have key : ∃ es : List AV, (∀ e ∈ es, F4.isOp e) ∧ es.length ≤ 9223372036854775807 ∧ (es = [] ∨ x = .sl false 6 es) ∧ ∃ env3, execW Try.prog cx [2000010, 2000013] (callW Try.prog how) (cr [.r, .r, .l, .l]) (env2, σ2) = some (.normal, (env3, σ2)) ∧ env3.length = 89 ∧ (Env.get env3 16 = x ∧ Env.get env3 17 = .int .i64 (es.length : Int) ∧ Env.get env3 18 = .int .i64 0) ∧ ∀ i, i ∉ [16, 17, 18] → Env.get env3 i = Env.get env2 i := by
    rcases hx with rfl | ⟨es, rfl, hle, hes⟩
    · exact ⟨[], fun e he => (by cases he), by simp, .inl rfl, rLn cx env2 _ b2 rfl f0⟩
    · exact ⟨es, hes, hle, .inr rfl, rLs cx env2 _ es b2 rfl f0⟩
  obtain ⟨es, hes, hle, hxe, env3, c1, c2, c3, c4⟩ := key
  have hJ0 : J v br bn x 0 env3 σ2 := by
    subst hst
    exact ⟨⟨(c4 4 (by decide)).trans f4, (c4 5 (by decide)).trans f5, (c4 7 (by decide)).trans b3.1, (c4 8 (by decide)).trans b3.2, c3.1⟩, rfl, rfl, ⟨0, 0, []⟩, hT, hG⟩
  have hloop : ∃ e env' σ', execW Try.prog cx [2000010, 2000013] (callW Try.prog how) (cr [.r, .r, .l, .r]) (env3, σ2) = some (e, (env', σ')) ∧ ((e = .normal ∧ ((env'.length = 89 ∧ J v br bn x es.length env' σ') ∨ False)) ∨ (e ≠ .normal ∧ e ≠ .exit 0 ∧ False)) := by
    rw [loop_eq]
    refine range_std (Ex := fun _ _ _ => False) (N := 89) (tc := 19) (ti := 18) (tl := 17) (tx := 29) (ty1 := 3) (ty2 := 3) (ty3 := 3) (ty4 := 3) ⟨by kernel_rfl, by kernel_rfl, by kernel_rfl⟩ ⟨by kernel_rfl, by kernel_rfl, by kernel_rfl⟩ ⟨by kernel_rfl, by kernel_rfl, by kernel_rfl⟩ (by decide) hle J_stable ?_ c2 c3.2.2 c3.2.1 hJ0
    rcases hxe with rfl | rfl
    · intro k env σ hk
      cases hk
    · exact step v br bn es hes
  obtain ⟨e, env5, σ5, d1, d2⟩ := hloop
  rcases d2 with ⟨rfl, ⟨d2, d3⟩ | d2⟩ | ⟨_, _, d2⟩
  · obtain ⟨e', σ', g1, g2⟩ := tail_ok v br bn hvr hbr x _ env5 σ5 d2 d3
    exact ⟨e', σ', execW_seq_of a1 (execW_seq_of b1 (execW_seq_of (execW_seq_of c1 d1) g1)), g2⟩
  · exact d2.elim
  · exact d2.elim
end F3
