/- The law's loop. -/
import Derived.Test.YtmldaajjeeidjaaCl
open Go Go.Abs Go.Proofs
set_option maxRecDepth 100000
set_option maxHeartbeats 4000000
set_option linter.unusedSimpArgs false
set_option linter.unusedVariables false
namespace F4

theorem body : Try.f4.body = some ((cr [.l]).seq ((cr [.r, .l]).seq (((cr [.r, .r, .l, .l]).seq (cr [.r, .r, .l, .r])).seq ((cr [.r, .r, .r, .l]).seq .ret)))) := by kernel_rfl
noncomputable def oT : Oper := (opsOf (cr [.r, .r, .l, .r, .i, .i, .l])).headD default
noncomputable def oI : List Oper := opsOf (cr [.r, .r, .l, .r, .i, .i, .r, .r, .r])
noncomputable def E : Code := cr [.r, .r, .l, .r, .i, .i, .r, .r, .l, .i, .l]
noncomputable def B : Code := cr [.r, .r, .l, .r, .i, .i, .r, .r, .l, .i, .r, .l]
noncomputable def Q : Code := cr [.r, .r, .l, .r, .i, .i, .r, .r, .l, .i, .r, .r, .l]
noncomputable def X : Code := cr [.r, .r, .l, .r, .i, .i, .r, .r, .l, .i, .r, .r, .r]
theorem loop_eq : cr [.r, .r, .l, .r] = .block 0 (.loop (.seq (.region 3 #[oT] false) (.seq (.cond (.tmp 15) .skip (.exit 0)) (.seq (.block 1 (E.seq (B.seq (Q.seq X)))) (.region 8 #[oI.headD default, (oI.drop 1).headD default] false))))) := by kernel_rfl
/-- An op, as the law has it. -/
def isOp (e : AV) : Prop := ∃ (c n : Int) (v : Vt), e = .agg [.int .i64 c, .int .i64 v.s, .int .u64 v.r, .int .i64 v.n, .str v.v, .int .i64 n] ∧ 0 ≤ v.r
def isOps (x : AV) : Prop := x = .nils ∨ ∃ es, x = .sl false 6 es ∧ es.length ≤ 9223372036854775807 ∧ ∀ e ∈ es, isOp e
def lenOps : AV → Nat
  | .sl _ _ es => es.length
  | _ => 0
/-- What holds ahead of each round. -/
def J (a r : Nat) (x : AV) (m : Int) (k : Nat) (env : Env) (σ : AS) : Prop :=
  Env.get env 1 = .int .i64 m ∧ Env.get env 5 = .ptr (.hp a) 0 ∧ Env.get env 6 = .ptr (.hp r) 0 ∧ Env.get env 12 = x ∧ ∃ S, F7.Two σ.hp a r S ∧ GoodS S
theorem J_stable {a r : Nat} {x : AV} {m : Int} : ∀ k env env' σ, env.length = 56 → env'.length = 56 → (∀ i, i ≠ 15 → i ≠ 54 → i ≠ 14 → Env.get env' i = Env.get env i) → J a r x m k env σ → J a r x m k env' σ := by
  rintro k env env' σ _ _ hf ⟨j1, j2, j3, j4, j5⟩
  exact ⟨(hf 1 (by decide) (by decide) (by decide)).trans j1, (hf 5 (by decide) (by decide) (by decide)).trans j2, (hf 6 (by decide) (by decide) (by decide)).trans j3, (hf 12 (by decide) (by decide) (by decide)).trans j4, j5⟩
def cx : Cx := { h := 0, ro := none, esc := [11] }
theorem step (a r : Nat) (m : Int) (es : List AV) (hes : ∀ e ∈ es, isOp e) :
    ∀ k env σ, k < es.length → env.length = 56 → Env.get env 14 = .int .i64 (k : Int) → Env.get env 13 = .int .i64 (es.length : Int) → J a r (.sl false 6 es) m k env σ → ∃ e env' σ', execW Try.prog cx [2000006] (callW Try.prog how) (.block 1 (E.seq (B.seq (Q.seq X)))) (env, σ) = some (e, (env', σ')) ∧
      ((e = .normal ∧ env'.length = 56 ∧ Env.get env' 14 = .int .i64 (k : Int) ∧ Env.get env' 13 = .int .i64 (es.length : Int) ∧ J a r (.sl false 6 es) m (k + 1) env' σ') ∨ (e ≠ .normal ∧ (e = .exit 0 ∧ env'.length = 56))) := by
  rintro k env σ hk hlen f14 f13 ⟨f1, f5, f6, f12, S, hT, hG⟩
  obtain ⟨c, n, v, he, hr⟩ := hes es[k] (List.getElem_mem hk)
  obtain ⟨env1, a1, a2, a3, a4⟩ := rE cx env σ es k c n v hlen rfl f12 f14 hk he rfl (Nat.zero_le _)
  by_cases q : (30 : Int) ≤ (k : Int)
  · obtain ⟨env2, b1, b2, _, b4⟩ := rB cx env1 _ k a2 rfl a3.1 q
    exact ⟨.exit 0, env2, _, block_exit (execW_seq_of a1 (execW_seq_exit b1)) (by simp), .inr ⟨by simp, rfl, b2⟩⟩
  · obtain ⟨env2, b1, b2, _, b4⟩ := rC cx env1 (σ.push false (.cells [.int .i64 c, .int .i64 v.s, .int .u64 v.r, .int .i64 v.n, .str v.v, .int .i64 n])) k a2 rfl a3.1 q
    have fr : ∀ i, i ∉ [7, 8, 16, 17, 18, 19, 20] → Env.get env2 i = Env.get env i := by
      intro i hi
      refine (b4 i ?_).trans (a4 i ?_) <;> (revert hi; simp only [List.mem_cons, List.not_mem_nil, or_false]; omega)
    have f8 := (b4 8 (by decide)).trans a3.2
    have g8 : (AS.mk σ.hp (σ.st ++ [.cells [.int .i64 c, .int .i64 v.s, .int .u64 v.r, .int .i64 v.n, .str v.v, .int .i64 n]])).get (.st σ.st.length) = some (.cells [.int .i64 c, .int .i64 v.s, .int .u64 v.r, .int .i64 v.n, .str v.v, .int .i64 n]) := by simp [AS.get]
    have hσ : σ.push false (.cells [.int .i64 c, .int .i64 v.s, .int .u64 v.r, .int .i64 v.n, .str v.v, .int .i64 n]) = ⟨σ.hp, σ.st ++ [.cells [.int .i64 c, .int .i64 v.s, .int .u64 v.r, .int .i64 v.n, .str v.v, .int .i64 n]]⟩ := by simp [AS.push]
    rw [hσ] at a1 b1
    generalize σ.st ++ [AObj.cells [.int .i64 c, .int .i64 v.s, .int .u64 v.r, .int .i64 v.n, .str v.v, .int .i64 n]] = s' at a1 b1 g8
    obtain ⟨hp1, h7, hT1⟩ := F7.ok σ.hp s' a r c n v S hT hG hr
    have hG1 : GoodS (opS c v n S) := good_op hG
    generalize opS c v n S = S1 at hT1 hG1
    have hT1' := hT1
    obtain ⟨mm, M, Y, hA, hM, hP, hR, hY, hne⟩ := hT1
    have hok : ∀ x ∈ M, SlotOk x := fun x hx => hG1.2.1 x (hP.mem_iff.1 hx)
    have hL : S1.L.length ≤ 1000 := Nat.le_trans hG1.2.2 (by decide)
    have h17 := f17_ok hp1 s' none a mm S1.pr S1.pn (fun k hk => by cases hk) hA
    have h16 := f16_ok hp1 s' none S1.pr S1.pn (fun k hk => by cases hk)
    have hlr : r < σ.hp.length := by
      obtain ⟨_, _, _, _, _, _, h, _⟩ := hT
      exact (List.getElem?_eq_some_iff.1 h).1
    have gT : (AS.mk (hp1.take σ.hp.length) s').get (.hp r) = some (.cells [.int .u64 S1.pr, .int .i64 S1.pn, Y]) := by
      simp only [AS.get]
      rw [List.getElem?_take, if_pos hlr]
      exact hR
    have h19 := F19.ok hp1 s' a mm S1.pr S1.pn m M S1.L hP hG1.1 hok hL hA hM
    have hT2 := F7.Two.append hT1' [.cells [.map (.hp mm)]]
    have q1 : ∀ {l : List AObj} {i : Nat} {o : AObj}, hp1[i]? = some o → (hp1 ++ l)[i]? = some o := fun {l i o} h => by rw [List.getElem?_append_left (List.getElem?_eq_some_iff.1 h).1]; exact h
    have hY2 : ∀ l, SlH (hp1 ++ l) Y (S1.L.map encV) := fun l => F7.SlH.keep hY fun j ⟨es, f, w, hj⟩ => by rw [q1 hj, hj]
    have h20 := F20.ok (hp1 ++ [.cells [.map (.hp mm)]]) s' none r S1.pr S1.pn m Y S1.L (fun k hk => by cases hk) (q1 hR) (hY2 _) hL
    have hfl : ∀ m, (fromV S1.L m).length ≤ 1000 := fun m => Nat.le_trans (List.length_filter_le _ _) hL
    have h18 := F18.ok (hp1 ++ [.cells [.map (.hp mm)]]) s' none (fromV S1.L m) (fromV S1.L m) (fun k hk => by cases hk) (hfl m)
    rw [decide_eq_true rfl] at h18
    have h19b := F19.ok (hp1 ++ [.cells [.map (.hp mm)]]) s' a mm S1.pr S1.pn 0 M S1.L hP hG1.1 hok hL (q1 hA) (q1 hM)
    rw [List.append_assoc] at h19b
    have h20b := F20.ok (hp1 ++ ([.cells [.map (.hp mm)]] ++ [.cells [.map (.hp mm)]])) s' none r S1.pr S1.pn 0 Y S1.L (fun k hk => by cases hk) (q1 hR) (hY2 _) hL
    have h18b := F18.ok (hp1 ++ ([.cells [.map (.hp mm)]] ++ [.cells [.map (.hp mm)]])) s' none (fromV S1.L 0) (fromV S1.L 0) (fun k hk => by cases hk) (hfl 0)
    rw [decide_eq_true rfl] at h18b
    obtain ⟨env3, c1, c2, c3, c4⟩ := m6 0 none σ.hp s' env2 a r σ.st.length c n m S1.pr S1.pn v Y _ _ hp1 _ _ b2 ((fr 1 (by decide)).trans f1) ((fr 5 (by decide)).trans f5) ((fr 6 (by decide)).trans f6) f8 g8 h7 h17 h16 gT h19 h20 h18 h19b h20b h18b
    obtain ⟨env4, d1, d2, _, d4⟩ := rX cx env3 _ c2 rfl c3
    have fr2 : ∀ i, i ∉ [7, 8, 16, 17, 18, 19, 20] → i ≤ 14 → Env.get env4 i = Env.get env i := by
      intro i hi h14
      refine (d4 i (by simp)).trans ((c4 i ?_).trans (fr i hi))
      simp only [List.mem_cons, List.not_mem_nil, or_false, not_or]
      omega
    exact ⟨.normal, env4, _, execW_block_of (execW_seq_of a1 (execW_seq_of b1 (execW_seq_of c1 d1))), .inl ⟨rfl, d2, (fr2 14 (by decide) (by decide)).trans f14, (fr2 13 (by decide) (by decide)).trans f13, (fr2 1 (by decide) (by decide)).trans f1, (fr2 5 (by decide) (by decide)).trans f5, (fr2 6 (by decide) (by decide)).trans f6, (fr2 12 (by decide) (by decide)).trans f12, S1, F7.Two.append hT1' _, hG1⟩⟩
theorem fin_code (st' : AS) (e : Env) (b : Bool) (h4 : Env.get e 4 = .bool b) : ∃ σ', finishA Try.prog { esc := [11], tails := [2000006] } Try.f4 0 (some (.ret, (e, st'))) = some (.bool b, σ') := by
  refine ⟨⟨st'.hp, st'.st.take 0⟩, ?_⟩
  simp -implicitDefEqProofs [finishA, resA, Try.f4, h4, oneA, AV.back, AV.inb]
theorem ok (x : AV) (m : Int) (hx : isOps x) : ∃ σ', callW Try.prog how 4 [x, .int .i64 m] ⟨[], []⟩ none = some (.bool true, σ') := by
  have henv : ∃ e, e = frameA Try.f4 [x, .int .i64 m] := ⟨_, rfl⟩
  obtain ⟨env, henv⟩ := henv
  have hl : env.length = 56 := by rw [henv]; rfl
  have h0 : Env.get env 0 = x := by rw [henv]; rfl
  have h1 : Env.get env 1 = .int .i64 m := by rw [henv]; rfl
  suffices h : ∃ e σ', execW Try.prog cx [2000006] (callW Try.prog how) ((cr [.l]).seq ((cr [.r, .l]).seq (((cr [.r, .r, .l, .l]).seq (cr [.r, .r, .l, .r])).seq ((cr [.r, .r, .r, .l]).seq .ret)))) (env, ⟨[], []⟩) = some (.ret, (e, σ')) ∧ Env.get e 4 = .bool true by
    obtain ⟨e, σ1, hr, h4⟩ := h
    obtain ⟨σ', hf⟩ := fin_code σ1 e true h4
    refine ⟨σ', callW_body (fl := { esc := [11], tails := [2000006] }) (fn := Try.f4) rfl Try.func4 body ?_⟩
    rw [← henv]
    exact (congrArg (finishA Try.prog { esc := [11], tails := [2000006] } Try.f4 0) hr).trans hf
  clear henv
  obtain ⟨env1, a1, a2, a3, a4⟩ := rA cx env ⟨[], []⟩ hl rfl
  obtain ⟨env2, b1, b2, b3, b4⟩ := rN cx env1 ⟨[], []⟩ [] [] a2 rfl (f6_ok [] []) rfl rfl
  have f0 := (b4 0 (by decide)).trans ((a4 0 (by decide)).trans h0)
  have f1 := (b4 1 (by decide)).trans ((a4 1 (by decide)).trans h1)
  simp only [List.length_nil, List.nil_append, Nat.zero_add] at b1 b3
  have hT : F7.Two [AObj.map [], AObj.cells [.int .u64 0, .int .i64 0, .map (.hp 0)], AObj.cells [.int .u64 0, .int .i64 0, .nils]] 1 2 ⟨0, 0, []⟩ := ⟨0, [], .nils, rfl, rfl, List.Perm.refl _, rfl, .inl ⟨rfl, rfl⟩, by decide⟩
  have hG : GoodS ⟨0, 0, []⟩ := ⟨List.Pairwise.nil, fun v hv => (by cases hv), by simp⟩
  have last : ∀ e σ, e.length = 56 → ∃ e' σ', execW Try.prog cx [2000006] (callW Try.prog how) ((cr [.r, .r, .r, .l]).seq .ret) (e, σ) = some (.ret, (e', σ')) ∧ Env.get e' 4 = .bool true := by
    intro e σ hle
    obtain ⟨hp', h11⟩ := f11_ok σ.hp σ.st
    obtain ⟨e', c1, c2, c3, c4⟩ := rZ cx e σ _ hle rfl h11
    exact ⟨e', _, execW_seq_of (b := .ret) c1 rfl, c3⟩
  have key : ∃ es : List AV, (∀ e ∈ es, isOp e) ∧ es.length ≤ 9223372036854775807 ∧ (es = [] ∨ x = .sl false 6 es) ∧ ∃ env3, execW Try.prog cx [2000006] (callW Try.prog how) (cr [.r, .r, .l, .l]) (env2, ⟨[AObj.map [], AObj.cells [.int .u64 0, .int .i64 0, .map (.hp 0)], AObj.cells [.int .u64 0, .int .i64 0, .nils]], []⟩) = some (.normal, (env3, ⟨[AObj.map [], AObj.cells [.int .u64 0, .int .i64 0, .map (.hp 0)], AObj.cells [.int .u64 0, .int .i64 0, .nils]], []⟩)) ∧ env3.length = 56 ∧ (Env.get env3 12 = x ∧ Env.get env3 13 = .int .i64 (es.length : Int) ∧ Env.get env3 14 = .int .i64 0) ∧ ∀ i, i ∉ [12, 13, 14] → Env.get env3 i = Env.get env2 i := by
    rcases hx with rfl | ⟨es, rfl, hle, hes⟩
    · exact ⟨[], fun e he => (by cases he), by simp, .inl rfl, rLn cx env2 _ b2 rfl f0⟩
    · exact ⟨es, hes, hle, .inr rfl, rLs cx env2 _ es b2 rfl f0⟩
  obtain ⟨es, hes, hle, hxe, env3, c1, c2, c3, c4⟩ := key
  have hJ0 : J 1 2 x m 0 env3 ⟨[AObj.map [], AObj.cells [.int .u64 0, .int .i64 0, .map (.hp 0)], AObj.cells [.int .u64 0, .int .i64 0, .nils]], []⟩ := ⟨(c4 1 (by decide)).trans f1, (c4 5 (by decide)).trans b3.1, (c4 6 (by decide)).trans b3.2, c3.1, ⟨0, 0, []⟩, hT, hG⟩
  have hloop : ∃ e env' σ', execW Try.prog cx [2000006] (callW Try.prog how) (cr [.r, .r, .l, .r]) (env3, ⟨[AObj.map [], AObj.cells [.int .u64 0, .int .i64 0, .map (.hp 0)], AObj.cells [.int .u64 0, .int .i64 0, .nils]], []⟩) = some (e, (env', σ')) ∧ ((e = .normal ∧ ((env'.length = 56 ∧ J 1 2 x m es.length env' σ') ∨ (AExit.exit 0 = .exit 0 ∧ env'.length = 56))) ∨ (e ≠ .normal ∧ e ≠ .exit 0 ∧ (e = .exit 0 ∧ env'.length = 56))) := by
    rw [loop_eq]
    refine range_std (Ex := fun e env' _ => e = .exit 0 ∧ env'.length = 56) (N := 56) (tc := 15) (ti := 14) (tl := 13) (tx := 54) (ty1 := 3) (ty2 := 3) (ty3 := 3) (ty4 := 3) ⟨by kernel_rfl, by kernel_rfl, by kernel_rfl⟩ ⟨by kernel_rfl, by kernel_rfl, by kernel_rfl⟩ ⟨by kernel_rfl, by kernel_rfl, by kernel_rfl⟩ (by decide) hle J_stable ?_ c2 c3.2.2 c3.2.1 hJ0
    rcases hxe with rfl | rfl
    · intro k env σ hk
      cases hk
    · exact step 1 2 m es hes
  obtain ⟨e, env5, σ5, d1, d2⟩ := hloop
  have hlen : e = .normal ∧ env5.length = 56 := by
    rcases d2 with ⟨rfl, ⟨d2, _⟩ | ⟨_, d2⟩⟩ | ⟨_, d2, d3, _⟩
    · exact ⟨rfl, d2⟩
    · exact ⟨rfl, d2⟩
    · exact absurd d3 d2
  obtain ⟨rfl, hlen⟩ := hlen
  obtain ⟨e', σ', g1, g2⟩ := last env5 σ5 hlen
  exact ⟨e', σ', execW_seq_of a1 (execW_seq_of b1 (execW_seq_of (execW_seq_of c1 d1) g1)), g2⟩

end F4