/- One call of both acceptors: they answer alike, and stay alike. -/
import Derived.Test.YtmldaajjeeidjaaCj
open Go Go.Abs Go.Proofs
set_option maxRecDepth 100000
set_option maxHeartbeats 4000000
set_option linter.unusedSimpArgs false
set_option linter.unusedVariables false
namespace F7

theorem body : Try.f7.body = some ((cr [.l]).seq (((cr [.r, .l, .l]).seq (.block 0 ((cr [.r, .l, .r, .i, .l]).seq (.cond (.tmp 13) ((cr [.r, .l, .r, .i, .r, .l, .l]).seq ((cr [.r, .l, .r, .i, .r, .l, .r, .l]).seq ((cr [.r, .l, .r, .i, .r, .l, .r, .r, .l]).seq .ret))) ((cr [.r, .l, .r, .i, .r, .r, .l]).seq (.cond (.tmp 44) ((cr [.r, .l, .r, .i, .r, .r, .r, .l, .l]).seq .ret) .skip)))))).seq ((cr [.r, .r, .l]).seq .ret))) := by kernel_rfl
theorem SlH.keep {hp hp' : List AObj} {X : AV} {l : List AV} (h : SlH hp X l) (hk : ∀ j : Nat, (∃ es f w, hp[j]? = some (AObj.row es 4 w f)) → hp'[j]? = hp[j]?) : SlH hp' X l := by
  rcases h with h | ⟨j, w, f, rfl, hj⟩
  · exact .inl h
  · exact .inr ⟨j, w, f, rfl, by rw [hk j ⟨_, _, _, hj⟩]; exact hj⟩
/-- Both acceptors, in one heap. -/
def Two (hp : List AObj) (a r : Nat) (S : StV) : Prop := ∃ (mm : Nat) (M : List Vt) (X : AV), hp[a]? = some (.cells [.int .u64 S.pr, .int .i64 S.pn, .map (.hp mm)]) ∧ hp[mm]? = some (.map (M.map entV)) ∧ M.Perm S.L ∧ hp[r]? = some (.cells [.int .u64 S.pr, .int .i64 S.pn, X]) ∧ SlH hp X (S.L.map encV) ∧ a ≠ r
theorem Two.append {hp : List AObj} {a r : Nat} {S : StV} (h : Two hp a r S) (l : List AObj) : Two (hp ++ l) a r S := by
  obtain ⟨mm, M, X, h1, h2, h3, h4, h5, h6⟩ := h
  have q : ∀ {i : Nat} {o : AObj}, hp[i]? = some o → (hp ++ l)[i]? = some o := fun {i o} h => by rw [List.getElem?_append_left (List.getElem?_eq_some_iff.1 h).1]; exact h
  exact ⟨mm, M, X, q h1, q h2, h3, q h4, SlH.keep h5 fun j ⟨es, f, w, hj⟩ => by rw [q hj, hj], h6⟩
theorem block_ret {P : Program} {cx : Cx} {tails : List Nat} {call : Caller} {c : Code} {B : Nat} {st st' : St} (h : execW P cx tails call c st = some (.ret, st')) : execW P cx tails call (.block B c) st = some (.ret, st') := block_exit h (by simp)
theorem fin_code (s hp' st' : List AObj) (e : Env) (b : Bool) (h6 : Env.get e 6 = .bool b) (hs : List.take s.length st' = s) : finishA Try.prog { tails := [2000003, 2000008] } Try.f7 s.length (some (.ret, (e, ⟨hp', st'⟩))) = some (.bool b, ⟨hp', s⟩) := by
  simp -implicitDefEqProofs [finishA, resA, Try.f7, h6, oneA, AV.back, AV.inb, hs]
/-- One call of both: they answer alike. -/
theorem ok (hp s : List AObj) (a r : Nat) (k m : Int) (v : Vt) (S : StV) (hT : Two hp a r S) (hG : GoodS S) (hr : 0 ≤ v.r) :
    ∃ hp', callW Try.prog how 7 [.ptr (.hp a) 0, .ptr (.hp r) 0, .agg [.int .i64 k, .int .i64 v.s, .int .u64 v.r, .int .i64 v.n, .str v.v, .int .i64 m]] ⟨hp, s⟩ none = some (.bool true, ⟨hp', s⟩) ∧ Two hp' a r (opS k v m S) := by
  let cx : Cx := { h := s.length, ro := none, esc := [] }
  have hcx : cx.esc = [] := rfl
  have henv : ∃ e, e = frameA Try.f7 [.ptr (.hp a) 0, .ptr (.hp r) 0, .agg [.int .i64 k, .int .i64 v.s, .int .u64 v.r, .int .i64 v.n, .str v.v, .int .i64 m]] := ⟨_, rfl⟩
  obtain ⟨env, henv⟩ := henv
  have hl : env.length = 57 := by rw [henv]; rfl
  have h0 : Env.get env 0 = .ptr (.hp a) 0 := by rw [henv]; rfl
  have h1 : Env.get env 1 = .ptr (.hp r) 0 := by rw [henv]; rfl
  have h2 : Env.get env 2 = .agg [.int .i64 k, .int .i64 v.s, .int .u64 v.r, .int .i64 v.n, .str v.v, .int .i64 m] := by rw [henv]; rfl
  have call : ∀ (e : Env) (hp' st' : List AObj), execW Try.prog cx [2000003, 2000008] (callW Try.prog how) ((cr [.l]).seq (((cr [.r, .l, .l]).seq (.block 0 ((cr [.r, .l, .r, .i, .l]).seq (.cond (.tmp 13) ((cr [.r, .l, .r, .i, .r, .l, .l]).seq ((cr [.r, .l, .r, .i, .r, .l, .r, .l]).seq ((cr [.r, .l, .r, .i, .r, .l, .r, .r, .l]).seq .ret))) ((cr [.r, .l, .r, .i, .r, .r, .l]).seq (.cond (.tmp 44) ((cr [.r, .l, .r, .i, .r, .r, .r, .l, .l]).seq .ret) .skip)))))).seq ((cr [.r, .r, .l]).seq .ret))) (env, ⟨hp, s⟩) = some (.ret, (e, ⟨hp', st'⟩)) → Env.get e 6 = .bool true → List.take s.length st' = s → callW Try.prog how 7 [.ptr (.hp a) 0, .ptr (.hp r) 0, .agg [.int .i64 k, .int .i64 v.s, .int .u64 v.r, .int .i64 v.n, .str v.v, .int .i64 m]] ⟨hp, s⟩ none = some (.bool true, ⟨hp', s⟩) := by
    intro e hp' st' hx h6 ht
    refine callW_body (fl := { tails := [2000003, 2000008] }) (fn := Try.f7) rfl Try.func7 body ?_
    rw [← henv]
    exact (congrArg (finishA Try.prog { tails := [2000003, 2000008] } Try.f7 s.length) hx).trans (fin_code s hp' st' e true h6 ht)
  clear henv
  obtain ⟨env1, a1, a2, a3, a4⟩ := rA cx env ⟨hp, s⟩ k m v hl hcx h2 rfl (Nat.le_refl _)
  have hσ : (AS.mk hp s).push false (.cells [.int .i64 k, .int .i64 v.s, .int .u64 v.r, .int .i64 v.n, .str v.v, .int .i64 m]) = ⟨hp, s ++ [.cells [.int .i64 k, .int .i64 v.s, .int .u64 v.r, .int .i64 v.n, .str v.v, .int .i64 m]]⟩ := by simp [AS.push]
  rw [hσ] at a1
  have g5 : ∀ H, (AS.mk H (s ++ [.cells [.int .i64 k, .int .i64 v.s, .int .u64 v.r, .int .i64 v.n, .str v.v, .int .i64 m]])).get (.st s.length) = some (.cells [.int .i64 k, .int .i64 v.s, .int .u64 v.r, .int .i64 v.n, .str v.v, .int .i64 m]) := fun H => by simp [AS.get]
  have f5 : Env.get env1 5 = .ptr (.st s.length) 0 := a3.1
  have f0 := (a4 0 (by decide)).trans h0
  have f1 := (a4 1 (by decide)).trans h1
  have htk : List.take s.length (s ++ [AObj.cells [.int .i64 k, .int .i64 v.s, .int .u64 v.r, .int .i64 v.n, .str v.v, .int .i64 m]]) = s := by simp
  generalize hs' : s ++ [AObj.cells [.int .i64 k, .int .i64 v.s, .int .u64 v.r, .int .i64 v.n, .str v.v, .int .i64 m]] = s' at a1 g5 htk
  obtain ⟨env2, b1, b2, b3, b4⟩ := r1 cx env1 ⟨hp, s'⟩ s.length k m v a2 hcx f5 (g5 hp)
  obtain ⟨env3, c1, c2, c3, c4⟩ := r2 cx env2 ⟨hp, s'⟩ k b2 hcx b3
  have f0 := (c4 0 (by decide)).trans ((b4 0 (by decide)).trans f0)
  have f1 := (c4 1 (by decide)).trans ((b4 1 (by decide)).trans f1)
  have f5 := (c4 5 (by decide)).trans ((b4 5 (by decide)).trans f5)
  have f12 := (c4 12 (by decide)).trans b3
  obtain ⟨mm, M, X, hA, hM, hP, hR, hX, hne⟩ := hT
  have hok : ∀ x ∈ M, SlotOk x := fun x hx => hG.2.1 x (hP.mem_iff.1 hx)
  have hla : a < hp.length := (List.getElem?_eq_some_iff.1 hA).1
  have hlr : r < hp.length := (List.getElem?_eq_some_iff.1 hR).1
  have hmma : mm ≠ a := by rintro rfl; rw [hA] at hM; cases hM
  have hmmr : mm ≠ r := by rintro rfl; rw [hR] at hM; cases hM
  by_cases hk0 : k = 0
  · -- Prepare
    have hq : opS k v m S = prepS v.r v.n m S := by unfold opS; rw [if_pos hk0]
    rw [hq]
    rw [decide_eq_true hk0] at c3
    have hc13 := f13_ok hp s' none v.r v.n (fun k hk => by cases hk)
    have finish : ∀ (hp1 hp2 : List AObj) (l : List Vt) (c : Int), callW Try.prog how 12 [.ptr (.hp a) 0, .agg [.int .u64 v.r, .int .i64 v.n], .int .i64 m] ⟨hp, s'⟩ none = some (.tup [slV 4 (l.map encV), .int .i64 c], ⟨hp1, s'⟩) → callW Try.prog how 21 [.ptr (.hp r) 0, .agg [.int .u64 v.r, .int .i64 v.n], .int .i64 m] ⟨hp1, s'⟩ none = some (.tup [slV 4 (l.map encV), .int .i64 c], ⟨hp2, s'⟩) → l.length ≤ 1000 →
        callW Try.prog how 7 [.ptr (.hp a) 0, .ptr (.hp r) 0, .agg [.int .i64 k, .int .i64 v.s, .int .u64 v.r, .int .i64 v.n, .str v.v, .int .i64 m]] ⟨hp, s⟩ none = some (.bool true, ⟨hp2, s⟩) := by
      intro hp1 hp2 l c e1 e2 hll
      obtain ⟨env4, d1, d2, d3, d4⟩ := m3 s.length none hp s' env3 a s.length k m v hp1 _ _ c2 f0 f5 g5 hc13 e1
      obtain ⟨env5, i1, i2, i3, i4⟩ := r4 cx env4 ⟨hp1, s'⟩ r s.length k m v _ _ _ d2 hcx ((d4 1 (by decide)).trans f1) ((d4 5 (by decide)).trans f5) (g5 hp1) e2
      have e3 := F18.ok hp2 s' none l l (fun k hk => by cases hk) hll
      rw [decide_eq_true rfl] at e3
      obtain ⟨env6, j1, j2, j3, j4⟩ := r5 cx env5 ⟨hp2, s'⟩ _ _ c i2 hcx ((i4 7 (by decide)).trans d3.1) ((i4 8 (by decide)).trans d3.2) i3.1 i3.2 e3
      exact call env6 hp2 s' (execW_seq_of a1 (execW_seq_ret (execW_seq_of b1 (block_ret (execW_seq_of c1 (execW_cond_t (by rw [ev_tmp c3]) (execW_seq_of d1 (execW_seq_of i1 (execW_seq_of (b := .ret) j1 rfl))))))))) j3 htk
    rcases F12.ok hp s' a v.r v.n m S.pr S.pn mm M S.L hP hG.1 hok (Nat.le_trans hG.2.2 (by decide)) hA hM hr with ⟨q1, q2⟩ | ⟨q1, q2, q3⟩ | ⟨q1, q2, q3⟩
    · have e2 : callW Try.prog how 21 [.ptr (.hp r) 0, .agg [.int .u64 v.r, .int .i64 v.n], .int .i64 m] ⟨hp, s'⟩ none = some (.tup [.nils, .int .i64 1], ⟨hp, s'⟩) := by
        rcases F21.ok hp s' r v.r v.n m S.pr S.pn X S.L hX (Nat.le_trans hG.2.2 (by decide)) hR hr with ⟨p1, p2⟩ | ⟨p1, _⟩ | ⟨p1, _⟩
        · exact p2
        · rw [q1] at p1; cases p1
        · rw [q1] at p1; cases p1
      refine ⟨hp, finish hp hp [] 1 q2 e2 (by simp), ?_⟩
      unfold prepS
      rw [if_neg (by rw [q1]; simp)]
      exact ⟨mm, M, X, hA, hM, hP, hR, hX, hne⟩
    · have e2 : callW Try.prog how 21 [.ptr (.hp r) 0, .agg [.int .u64 v.r, .int .i64 v.n], .int .i64 m] ⟨hp, s'⟩ none = some (.tup [.nils, .int .i64 13], ⟨hp, s'⟩) := by
        rcases F21.ok hp s' r v.r v.n m S.pr S.pn X S.L hX (Nat.le_trans hG.2.2 (by decide)) hR hr with ⟨p1, _⟩ | ⟨_, _, p3⟩ | ⟨_, p2, _⟩
        · rw [q1] at p1; cases p1
        · exact p3
        · rw [q2] at p2; cases p2
      refine ⟨hp, finish hp hp [] 13 q3 e2 (by simp), ?_⟩
      unfold prepS
      rw [if_pos q1, if_pos q2]
      exact ⟨mm, M, X, hA, hM, hP, hR, hX, hne⟩
    · have hA1 : (hp.set a (.cells [.int .u64 v.r, .int .i64 v.n, .map (.hp mm)]) ++ [AObj.cells [.map (.hp mm)]])[a]? = some (.cells [.int .u64 v.r, .int .i64 v.n, .map (.hp mm)]) := by
        rw [List.getElem?_append_left (by simpa using hla), List.getElem?_set_self hla]
      have hother : ∀ i o, i ≠ a → hp[i]? = some o → (hp.set a (.cells [.int .u64 v.r, .int .i64 v.n, .map (.hp mm)]) ++ [AObj.cells [.map (.hp mm)]])[i]? = some o := by
        intro i o hi ho
        have := (List.getElem?_eq_some_iff.1 ho).1
        rw [List.getElem?_append_left (by simpa using this), List.getElem?_set_ne (fun e => hi e.symm)]
        exact ho
      have hR1 := hother r _ (fun e => hne e.symm) hR
      have hM1 := hother mm _ hmma hM
      have hX1 : SlH (hp.set a (.cells [.int .u64 v.r, .int .i64 v.n, .map (.hp mm)]) ++ [AObj.cells [.map (.hp mm)]]) X (S.L.map encV) := SlH.keep hX fun j ⟨es, f, w, hj⟩ => by
        rw [hother j _ (by rintro rfl; rw [hA] at hj; cases hj) hj, hj]
      have e2 := F21.ok (hp.set a (.cells [.int .u64 v.r, .int .i64 v.n, .map (.hp mm)]) ++ [AObj.cells [.map (.hp mm)]]) s' r v.r v.n m S.pr S.pn X S.L hX1 (Nat.le_trans hG.2.2 (by decide)) hR1 hr
      have e2' := (e2.resolve_left (fun h => by rw [q1] at h; cases h.1)).resolve_left (fun h => by rw [q2] at h; cases h.2.1)
      refine ⟨_, finish _ _ (fromV S.L m) 0 q3 e2'.2.2 ?_, ?_⟩
      · refine Nat.le_trans (List.length_filter_le _ _) (Nat.le_trans hG.2.2 (by decide))
      · unfold prepS
        rw [if_pos q1, if_neg (by rw [q2]; simp)]
        have hlr1 : r < (hp.set a (.cells [.int .u64 v.r, .int .i64 v.n, .map (.hp mm)]) ++ [AObj.cells [.map (.hp mm)]]).length := (List.getElem?_eq_some_iff.1 hR1).1
        refine ⟨mm, M, X, ?_, ?_, hP, List.getElem?_set_self hlr1, ?_, hne⟩
        · rw [List.getElem?_set_ne (fun e => hne e.symm)]; exact hA1
        · rw [List.getElem?_set_ne (fun e => hmmr e.symm)]; exact hM1
        · exact SlH.keep hX1 fun j ⟨es, f, w, hj⟩ => by rw [List.getElem?_set_ne (by rintro rfl; rw [hR1] at hj; cases hj)]
  · rw [decide_eq_false hk0] at c3
    by_cases hk1 : k = 1 ∨ k = 2
    · -- Accept
      have hq : opS k v m S = accS v S := by unfold opS; rw [if_neg hk0, if_pos hk1]
      rw [hq]
      have h6 : ∃ env4, execW Try.prog cx [2000003, 2000008] (callW Try.prog how) (cr [.r, .l, .r, .i, .r, .r, .l]) (env3, ⟨hp, s'⟩) = some (.normal, (env4, ⟨hp, s'⟩)) ∧ env4.length = 57 ∧ Env.get env4 44 = .bool true ∧ Env.get env4 0 = .ptr (.hp a) 0 ∧ Env.get env4 1 = .ptr (.hp r) 0 ∧ Env.get env4 5 = .ptr (.st s.length) 0 := by
        rcases hk1 with rfl | rfl
        · obtain ⟨env4, d1, d2, d3, d4⟩ := r6a cx env3 ⟨hp, s'⟩ c2 hcx f12
          exact ⟨env4, d1, d2, d3, (d4 0 (by decide)).trans f0, (d4 1 (by decide)).trans f1, (d4 5 (by decide)).trans f5⟩
        · obtain ⟨env4, d1, d2, d3, d4⟩ := r6b cx env3 ⟨hp, s'⟩ c2 hcx f12
          exact ⟨env4, d1, d2, d3, (d4 0 (by decide)).trans f0, (d4 1 (by decide)).trans f1, (d4 5 (by decide)).trans f5⟩
      obtain ⟨env4, d1, d2, d3, f0, f1, f5⟩ := h6
      have hc9 := f9_ok hp s' none v.s v.r v.n v.v (fun k hk => by cases hk)
      have finish : ∀ (hp1 hp2 : List AObj) (c : Int), callW Try.prog how 8 [.ptr (.hp a) 0, .agg [.int .i64 v.s, .int .u64 v.r, .int .i64 v.n, .str v.v]] ⟨hp, s'⟩ none = some (.int .i64 c, ⟨hp1, s'⟩) → callW Try.prog how 10 [.ptr (.hp r) 0, .agg [.int .i64 v.s, .int .u64 v.r, .int .i64 v.n, .str v.v]] ⟨hp1, s'⟩ none = some (.int .i64 c, ⟨hp2, s'⟩) →
          callW Try.prog how 7 [.ptr (.hp a) 0, .ptr (.hp r) 0, .agg [.int .i64 k, .int .i64 v.s, .int .u64 v.r, .int .i64 v.n, .str v.v, .int .i64 m]] ⟨hp, s⟩ none = some (.bool true, ⟨hp2, s⟩) := by
        intro hp1 hp2 c e1 e2
        obtain ⟨env5, i1, i2, i3, i4⟩ := m8 s.length none hp s' env4 a r s.length k m v hp1 hp2 c c d2 f0 f1 f5 g5 hc9 e1 e2
        rw [decide_eq_true rfl] at i3
        exact call env5 hp2 s' (execW_seq_of a1 (execW_seq_ret (execW_seq_of b1 (block_ret (execW_seq_of c1 (execW_cond_f (by rw [ev_tmp c3]) (execW_seq_of d1 (execW_cond_t (by rw [ev_tmp d3]) (execW_seq_of (b := .ret) i1 rfl))))))))) i3 htk
      have hL4 := hG.2.2
      have hfin := there_find (v := v) hP
      obtain ⟨hp1, _, o⟩ := F8.ok hp s' a S.pr S.pn v M ⟨mm, hA, hM⟩ hr
      have stay : Two hp a r S := ⟨mm, M, X, hA, hM, hP, hR, hX, hne⟩
      rcases o with ⟨q1, q2⟩ | ⟨q1, q2, q3⟩ | ⟨q1, q2, q3, q4, q5⟩ | ⟨q1, q2, q3, q4, m', hA', hhp1, hM'⟩
      · obtain ⟨hp2, hK, o2⟩ := F10.ok hp s' r S.pr S.pn v S.L ⟨X, hR, hX⟩ hL4 hr
        have o2' := o2.resolve_right (by rintro (⟨p, _⟩ | ⟨p, _⟩ | ⟨p, _⟩) <;> · rw [q1] at p; cases p)
        obtain ⟨_, p2, X', p3, p4⟩ := o2'
        refine ⟨hp2, finish hp hp2 1 q2 p2, ?_⟩
        unfold accS
        rw [if_neg (by rw [q1]; simp)]
        have kk : ∀ i o, i ≠ r → hp[i]? = some o → hp2[i]? = some o := fun i o hi ho => by rw [hK.2 i (by simpa using hi) (List.getElem?_eq_some_iff.1 ho).1]; exact ho
        exact ⟨mm, M, X', kk a _ hne hA, kk mm _ hmmr hM, hP, p3, p4, hne⟩
      · obtain ⟨hp2, hK, o2⟩ := F10.ok hp s' r S.pr S.pn v S.L ⟨X, hR, hX⟩ hL4 hr
        have o2' := (o2.resolve_left (fun h => by rw [q1] at h; cases h.1)).resolve_right (by rintro (⟨_, p, _⟩ | ⟨_, p, _⟩) <;> · rw [q2] at p; cases p)
        obtain ⟨_, _, p2, X', p3, p4⟩ := o2'
        refine ⟨hp2, finish hp hp2 13 q3 p2, ?_⟩
        unfold accS
        rw [if_pos q1, if_pos q2]
        have kk : ∀ i o, i ≠ r → hp[i]? = some o → hp2[i]? = some o := fun i o hi ho => by rw [hK.2 i (by simpa using hi) (List.getElem?_eq_some_iff.1 ho).1]; exact ho
        exact ⟨mm, M, X', kk a _ hne hA, kk mm _ hmmr hM, hP, p3, p4, hne⟩
      · have hth := hfin.1 q3
        have hle : 400 ≤ S.L.length := by rw [← hP.length_eq]; exact q4
        obtain ⟨hp2, hK, o2⟩ := F10.ok hp s' r S.pr S.pn v S.L ⟨X, hR, hX⟩ hL4 hr
        have o2' := ((o2.resolve_left (fun h => by rw [q1] at h; cases h.1)).resolve_left (fun h => by rw [q2] at h; cases h.2.1)).resolve_right (by rintro ⟨_, _, p, _⟩; exact p ⟨hth, hle⟩)
        obtain ⟨_, _, _, _, p2, X', p3, p4⟩ := o2'
        refine ⟨hp2, finish hp hp2 9 q5 p2, ?_⟩
        unfold accS
        rw [if_pos q1, if_neg (by rw [q2]; simp), if_pos ⟨hth, hle⟩]
        have kk : ∀ i o, i ≠ r → hp[i]? = some o → hp2[i]? = some o := fun i o hi ho => by rw [hK.2 i (by simpa using hi) (List.getElem?_eq_some_iff.1 ho).1]; exact ho
        exact ⟨mm, M, X', kk a _ hne hA, kk mm _ hmmr hM, hP, p3, p4, hne⟩
      · have em : m' = mm := by rw [hA] at hA'; cases hA'; rfl
        subst em
        have hn : ¬ ((accV v S.L).2.2 = false ∧ 400 ≤ S.L.length) := fun h => q3 ⟨hfin.2 h.1, by rw [hP.length_eq]; exact h.2⟩
        have other : ∀ i o, i ≠ a → i ≠ m' → hp[i]? = some o → hp1[i]? = some o := by
          intro i o hi hi2 ho
          rw [hhp1, List.getElem?_set_ne (fun e => hi2 e.symm), List.getElem?_set_ne (fun e => hi e.symm)]
          exact ho
        have hA1 : hp1[a]? = some (.cells [.int .u64 v.r, .int .i64 v.n, .map (.hp m')]) := by
          rw [hhp1, List.getElem?_set_ne hmma, List.getElem?_set_self hla]
        have hM1 : hp1[m']? = some (.map ((updV v M).map entV)) := by
          rw [hhp1, List.getElem?_set_self (by rw [List.length_set]; exact (List.getElem?_eq_some_iff.1 hM).1)]
        have hR1 := other r _ (fun e => hne e.symm) (fun e => hmmr e.symm) hR
        have hX1 : SlH hp1 X (S.L.map encV) := SlH.keep hX fun j ⟨es, f, w, hj⟩ => by
          rw [other j _ (by rintro rfl; rw [hA] at hj; cases hj) (by rintro rfl; rw [hM] at hj; cases hj) hj, hj]
        obtain ⟨hp2, hK, o2⟩ := F10.ok hp1 s' r S.pr S.pn v S.L ⟨X, hR1, hX1⟩ hL4 hr
        have o2' := ((o2.resolve_left (fun h => by rw [q1] at h; cases h.1)).resolve_left (fun h => by rw [q2] at h; cases h.2.1)).resolve_left (fun h => hn ⟨h.2.2.1, h.2.2.2.1⟩)
        obtain ⟨_, _, _, p2, X', p3, p4⟩ := o2'
        refine ⟨hp2, finish hp1 hp2 0 q4 p2, ?_⟩
        unfold accS
        rw [if_pos q1, if_neg (by rw [q2]; simp), if_neg hn]
        have kk : ∀ i o, i ≠ r → hp1[i]? = some o → hp2[i]? = some o := fun i o hi ho => by rw [hK.2 i (by simpa using hi) (List.getElem?_eq_some_iff.1 ho).1]; exact ho
        exact ⟨m', updV v M, X', kk a _ hne hA1, kk m' _ hmmr hM1, upd_put hP hG.1, p3, p4, hne⟩
    · have hq : opS k v m S = S := by unfold opS; rw [if_neg hk0, if_neg hk1]
      rw [hq]
      obtain ⟨env4, d1, d2, d3, d4⟩ := r6c cx env3 ⟨hp, s'⟩ k c2 hcx f12 (fun e => hk1 (.inl e)) (fun e => hk1 (.inr e))
      obtain ⟨env5, i1, i2, i3, i4⟩ := r9 cx env4 ⟨hp, s'⟩ d2 hcx
      refine ⟨hp, call env5 hp s' (execW_seq_of a1 (execW_seq_of (execW_seq_of b1 (execW_block_of (execW_seq_of c1 (execW_cond_f (by rw [ev_tmp c3]) (execW_seq_of d1 (execW_cond_f (by rw [ev_tmp d3]) rfl)))))) (execW_seq_of (b := .ret) i1 rfl))) i3 htk, mm, M, X, hA, hM, hP, hR, hX, hne⟩

end F7