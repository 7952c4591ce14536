/- The law: a round. -/

import Derived.Test.YtcafckfmhoklkaaDb
open Go Go.Abs Go.Proofs
set_option maxRecDepth 100000
set_option maxHeartbeats 4000000
set_option linter.unusedSimpArgs false
set_option linter.unusedVariables false

namespace F3
/-- What holds ahead of round k. -/
def J (h : Nat) (σ0 : AS) (b : Nat) (at_ : Int) (es : List AV) (k : Nat) (env : Env) (σ : AS) : Prop :=
  Env.get env 1 = .int .u16 at_ ∧ Env.get env 5 = .ptr (.hp b) 0 ∧ Env.get env 23 = .sl false 5 es ∧ (k ≤ 15) ∧ (InvM b k (Env.get env 6) σ) ∧ True
def Ex (h : Nat) (σ0 : AS) (b : Nat) (at_ : Int) (es : List AV) (e : AExit) (env : Env) (σ : AS) : Prop := e = .exit 0 ∧ env.length = 156 ∧ Env.get env 5 = .ptr (.hp b) 0 ∧ ∃ k, k ≤ 15 ∧ InvM b k (Env.get env 6) σ
theorem J_stable {h : Nat} {σ0 : AS} {b : Nat} {at_ : Int} {es : List AV} : ∀ k env env' σ, env.length = 156 → env'.length = 156 → (∀ i, i ≠ 26 → i ≠ 139 → i ≠ 25 → Env.get env' i = Env.get env i) → J h σ0 b at_ es k env σ → J h σ0 b at_ es k env' σ := by
  rintro k env env' σ _ _ hf ⟨j1, j5, j23, q0, q1, ho⟩
  exact ⟨(hf 1 (by decide) (by decide) (by decide)).trans j1, (hf 5 (by decide) (by decide) (by decide)).trans j5, (hf 23 (by decide) (by decide) (by decide)).trans j23, q0, (by rw [hf 6 (by decide) (by decide) (by decide)]; exact q1), ho⟩
noncomputable def oT : Oper := (opsOf (cr [.r, .r, .r, .l, .r, .i, .i, .l])).headD default
noncomputable def oI : List Oper := opsOf (cr [.r, .r, .r, .l, .r, .i, .i, .r, .r, .r])
theorem loop_eq : (cr [.r, .r, .r, .l, .r]) = .block 0 (.loop (.seq (.region 4 #[oT] false) (.seq (.cond (.tmp 26) .skip (.exit 0)) (.seq (.block 1 (.seq (cr [.r, .r, .r, .l, .r, .i, .i, .r, .r, .l, .i, .l]) (.seq (cr [.r, .r, .r, .l, .r, .i, .i, .r, .r, .l, .i, .r, .l]) (.seq (cr [.r, .r, .r, .l, .r, .i, .i, .r, .r, .l, .i, .r, .r, .l]) (.seq (cr [.r, .r, .r, .l, .r, .i, .i, .r, .r, .l, .i, .r, .r, .r, .l]) (.seq (cr [.r, .r, .r, .l, .r, .i, .i, .r, .r, .l, .i, .r, .r, .r, .r, .l]) (.seq (cr [.r, .r, .r, .l, .r, .i, .i, .r, .r, .l, .i, .r, .r, .r, .r, .r, .l]) (.seq (cr [.r, .r, .r, .l, .r, .i, .i, .r, .r, .l, .i, .r, .r, .r, .r, .r, .r, .l]) (.seq (cr [.r, .r, .r, .l, .r, .i, .i, .r, .r, .l, .i, .r, .r, .r, .r, .r, .r, .r, .l]) (.seq (cr [.r, .r, .r, .l, .r, .i, .i, .r, .r, .l, .i, .r, .r, .r, .r, .r, .r, .r, .r, .l]) (.seq (.seq (cr [.r, .r, .r, .l, .r, .i, .i, .r, .r, .l, .i, .r, .r, .r, .r, .r, .r, .r, .r, .r, .l, .l]) (cr [.r, .r, .r, .l, .r, .i, .i, .r, .r, .l, .i, .r, .r, .r, .r, .r, .r, .r, .r, .r, .l, .r])) (.seq (.seq (cr [.r, .r, .r, .l, .r, .i, .i, .r, .r, .l, .i, .r, .r, .r, .r, .r, .r, .r, .r, .r, .r, .l, .l]) (.cond (.tmp 85) (.seq (cr [.r, .r, .r, .l, .r, .i, .i, .r, .r, .l, .i, .r, .r, .r, .r, .r, .r, .r, .r, .r, .r, .l, .r, .l, .l]) (.seq (cr [.r, .r, .r, .l, .r, .i, .i, .r, .r, .l, .i, .r, .r, .r, .r, .r, .r, .r, .r, .r, .r, .l, .r, .l, .r, .l]) (.seq (cr [.r, .r, .r, .l, .r, .i, .i, .r, .r, .l, .i, .r, .r, .r, .r, .r, .r, .r, .r, .r, .r, .l, .r, .l, .r, .r, .l]) (.cond (.tmp 96) (cr [.r, .r, .r, .l, .r, .i, .i, .r, .r, .l, .i, .r, .r, .r, .r, .r, .r, .r, .r, .r, .r, .l, .r, .l, .r, .r, .r, .l]) .skip)))) .skip)) (.seq (.seq (cr [.r, .r, .r, .l, .r, .i, .i, .r, .r, .l, .i, .r, .r, .r, .r, .r, .r, .r, .r, .r, .r, .r, .l, .l]) (.cond (.tmp 105) (cr [.r, .r, .r, .l, .r, .i, .i, .r, .r, .l, .i, .r, .r, .r, .r, .r, .r, .r, .r, .r, .r, .r, .l, .r, .l]) .skip)) (.seq (cr [.r, .r, .r, .l, .r, .i, .i, .r, .r, .l, .i, .r, .r, .r, .r, .r, .r, .r, .r, .r, .r, .r, .r, .l]) (.seq (cr [.r, .r, .r, .l, .r, .i, .i, .r, .r, .l, .i, .r, .r, .r, .r, .r, .r, .r, .r, .r, .r, .r, .r, .r, .l]) (.seq (cr [.r, .r, .r, .l, .r, .i, .i, .r, .r, .l, .i, .r, .r, .r, .r, .r, .r, .r, .r, .r, .r, .r, .r, .r, .r, .l]) (.seq (cr [.r, .r, .r, .l, .r, .i, .i, .r, .r, .l, .i, .r, .r, .r, .r, .r, .r, .r, .r, .r, .r, .r, .r, .r, .r, .r, .l]) (.seq (cr [.r, .r, .r, .l, .r, .i, .i, .r, .r, .l, .i, .r, .r, .r, .r, .r, .r, .r, .r, .r, .r, .r, .r, .r, .r, .r, .r, .l]) (cr [.r, .r, .r, .l, .r, .i, .i, .r, .r, .l, .i, .r, .r, .r, .r, .r, .r, .r, .r, .r, .r, .r, .r, .r, .r, .r, .r, .r]))))))))))))))))))) (.region 33 #[oI.headD default, (oI.drop 1).headD default] false))))) := by kernel_rfl
theorem step (cx : Cx) (hcx : cx.esc = [22]) (hro : ∀ k, cx.ro = some k → k ≤ cx.h) (σ0 : AS) (b : Nat) (at_ : Int) (es : List AV) (hr0 : cx.ro = none) (hh0 : cx.h = 0) (hat : 0 ≤ at_ ∧ at_ ≤ 65535) (hes : ∀ e ∈ es, isOpM e) :
    ∀ k env σ, k < es.length → env.length = 156 → Env.get env 25 = .int .i64 (k : Int) → Env.get env 24 = .int .i64 ((es.length : Nat) : Int) → J cx.h σ0 b at_ es k env σ → ∃ e env' σ', execW Try.prog cx [] (callW Try.prog how) (.block 1 (.seq (cr [.r, .r, .r, .l, .r, .i, .i, .r, .r, .l, .i, .l]) (.seq (cr [.r, .r, .r, .l, .r, .i, .i, .r, .r, .l, .i, .r, .l]) (.seq (cr [.r, .r, .r, .l, .r, .i, .i, .r, .r, .l, .i, .r, .r, .l]) (.seq (cr [.r, .r, .r, .l, .r, .i, .i, .r, .r, .l, .i, .r, .r, .r, .l]) (.seq (cr [.r, .r, .r, .l, .r, .i, .i, .r, .r, .l, .i, .r, .r, .r, .r, .l]) (.seq (cr [.r, .r, .r, .l, .r, .i, .i, .r, .r, .l, .i, .r, .r, .r, .r, .r, .l]) (.seq (cr [.r, .r, .r, .l, .r, .i, .i, .r, .r, .l, .i, .r, .r, .r, .r, .r, .r, .l]) (.seq (cr [.r, .r, .r, .l, .r, .i, .i, .r, .r, .l, .i, .r, .r, .r, .r, .r, .r, .r, .l]) (.seq (cr [.r, .r, .r, .l, .r, .i, .i, .r, .r, .l, .i, .r, .r, .r, .r, .r, .r, .r, .r, .l]) (.seq (.seq (cr [.r, .r, .r, .l, .r, .i, .i, .r, .r, .l, .i, .r, .r, .r, .r, .r, .r, .r, .r, .r, .l, .l]) (cr [.r, .r, .r, .l, .r, .i, .i, .r, .r, .l, .i, .r, .r, .r, .r, .r, .r, .r, .r, .r, .l, .r])) (.seq (.seq (cr [.r, .r, .r, .l, .r, .i, .i, .r, .r, .l, .i, .r, .r, .r, .r, .r, .r, .r, .r, .r, .r, .l, .l]) (.cond (.tmp 85) (.seq (cr [.r, .r, .r, .l, .r, .i, .i, .r, .r, .l, .i, .r, .r, .r, .r, .r, .r, .r, .r, .r, .r, .l, .r, .l, .l]) (.seq (cr [.r, .r, .r, .l, .r, .i, .i, .r, .r, .l, .i, .r, .r, .r, .r, .r, .r, .r, .r, .r, .r, .l, .r, .l, .r, .l]) (.seq (cr [.r, .r, .r, .l, .r, .i, .i, .r, .r, .l, .i, .r, .r, .r, .r, .r, .r, .r, .r, .r, .r, .l, .r, .l, .r, .r, .l]) (.cond (.tmp 96) (cr [.r, .r, .r, .l, .r, .i, .i, .r, .r, .l, .i, .r, .r, .r, .r, .r, .r, .r, .r, .r, .r, .l, .r, .l, .r, .r, .r, .l]) .skip)))) .skip)) (.seq (.seq (cr [.r, .r, .r, .l, .r, .i, .i, .r, .r, .l, .i, .r, .r, .r, .r, .r, .r, .r, .r, .r, .r, .r, .l, .l]) (.cond (.tmp 105) (cr [.r, .r, .r, .l, .r, .i, .i, .r, .r, .l, .i, .r, .r, .r, .r, .r, .r, .r, .r, .r, .r, .r, .l, .r, .l]) .skip)) (.seq (cr [.r, .r, .r, .l, .r, .i, .i, .r, .r, .l, .i, .r, .r, .r, .r, .r, .r, .r, .r, .r, .r, .r, .r, .l]) (.seq (cr [.r, .r, .r, .l, .r, .i, .i, .r, .r, .l, .i, .r, .r, .r, .r, .r, .r, .r, .r, .r, .r, .r, .r, .r, .l]) (.seq (cr [.r, .r, .r, .l, .r, .i, .i, .r, .r, .l, .i, .r, .r, .r, .r, .r, .r, .r, .r, .r, .r, .r, .r, .r, .r, .l]) (.seq (cr [.r, .r, .r, .l, .r, .i, .i, .r, .r, .l, .i, .r, .r, .r, .r, .r, .r, .r, .r, .r, .r, .r, .r, .r, .r, .r, .l]) (.seq (cr [.r, .r, .r, .l, .r, .i, .i, .r, .r, .l, .i, .r, .r, .r, .r, .r, .r, .r, .r, .r, .r, .r, .r, .r, .r, .r, .r, .l]) (cr [.r, .r, .r, .l, .r, .i, .i, .r, .r, .l, .i, .r, .r, .r, .r, .r, .r, .r, .r, .r, .r, .r, .r, .r, .r, .r, .r, .r]))))))))))))))))))) (env, σ) = some (e, (env', σ')) ∧
      ((e = .normal ∧ env'.length = 156 ∧ Env.get env' 25 = .int .i64 (k : Int) ∧ Env.get env' 24 = .int .i64 ((es.length : Nat) : Int) ∧ J cx.h σ0 b at_ es (k + 1) env' σ') ∨ (e ≠ .normal ∧ Ex cx.h σ0 b at_ es e env' σ')) := by
  rintro k env σ hk hlen f25 f24 ⟨f1, f5, f23, q0, q1, ho⟩
  obtain ⟨l, H, S, M, hR, hL, hA, hM⟩ := q1
  obtain ⟨R, f6⟩ : ∃ R, Env.get env 6 = R := ⟨_, rfl⟩
  rw [f6] at hR
  have hw0 : ∀ i, wok cx.ro (.st i) = true := fun i => by rw [hr0]; rfl
  have hhz : ∀ i, cx.h ≤ i := fun i => by rw [hh0]; exact Nat.zero_le _
  have hrN : ∀ n : Nat, ∀ k, cx.ro = some k → k ≤ n := fun _ _ h => by rw [hr0] at h; cases h
  obtain ⟨kind, key, val, X, Y, rs, ws, he, hX, hY, hn1, hn2, hks, hvs, ho1, ho2⟩ := hes es[k] (List.getElem_mem hk)
  have hh : σ.hp = σ.hp := rfl
  generalize hhp0 : σ.hp = hp0 at hA hM
  have hh : σ.hp = hp0 := hhp0
  obtain ⟨env1, x1a, x1b, x1c, x1d⟩ := rE cx env σ es k kind key val X Y hlen hcx f23 f25 hk he hX.plain hY.plain (hw0 _) (hhz _)
  have f1 := (x1d 1 (by decide)).trans f1
  have f5 := (x1d 5 (by decide)).trans f5
  have f6 := (x1d 6 (by decide)).trans f6
  have f23 := (x1d 23 (by decide)).trans f23
  have f24 := (x1d 24 (by decide)).trans f24
  have f25 := (x1d 25 (by decide)).trans f25
  have f7 := x1c.1
  have f8 := x1c.2
  have g1 : ((σ : AS).push false (.cells [.int .i64 kind, .str key, .str val, X, Y])).get (.st (σ : AS).st.length) = some (.cells [.int .i64 kind, .str key, .str val, X, Y]) := AS.get_push_at rfl
  have hR := hR.push (ob := .cells [.int .i64 kind, .str key, .str val, X, Y])
  generalize hib1 : (σ : AS).st.length = ib1 at g1 f8
  have hpn1 : ((σ : AS).push false (.cells [.int .i64 kind, .str key, .str val, X, Y])).hp = (σ : AS).hp := rfl
  generalize (σ : AS).push false (.cells [.int .i64 kind, .str key, .str val, X, Y]) = σ1 at x1a g1 hR hpn1
  have hh := hpn1.trans hh
  by_cases q : (15 : Int) ≤ (k : Int)
  · skip
    obtain ⟨env2, x2a, x2b, x2c, x2d⟩ := rB cx env1 σ1 k x1b hcx f7 q 
    have f1 := (x2d 1 (by decide)).trans f1
    have f5 := (x2d 5 (by decide)).trans f5
    have f6 := (x2d 6 (by decide)).trans f6
    have f7 := (x2d 7 (by decide)).trans f7
    have f8 := (x2d 8 (by decide)).trans f8
    have f23 := (x2d 23 (by decide)).trans f23
    have f24 := (x2d 24 (by decide)).trans f24
    have f25 := (x2d 25 (by decide)).trans f25
    exact ⟨.exit 0, env2, _, (block_exit (execW_seq_of x1a (execW_seq_exit x2a)) (by simp)), .inr ⟨by simp, rfl, x2b, f5, k, q0, by rw [f6]; exact ⟨l, H, S, M, hR, hL, (by rw [hh]; exact hA), (by rw [hh]; exact hM)⟩⟩⟩
  · skip
    obtain ⟨env2, x2a, x2b, x2c, x2d⟩ := rC cx env1 σ1 k x1b hcx f7 q 
    have f1 := (x2d 1 (by decide)).trans f1
    have f5 := (x2d 5 (by decide)).trans f5
    have f6 := (x2d 6 (by decide)).trans f6
    have f7 := (x2d 7 (by decide)).trans f7
    have f8 := (x2d 8 (by decide)).trans f8
    have f23 := (x2d 23 (by decide)).trans f23
    have f24 := (x2d 24 (by decide)).trans f24
    have f25 := (x2d 25 (by decide)).trans f25
    obtain ⟨rs0, hrs0⟩ : ∃ r, r = rs.take 10 := ⟨_, rfl⟩
    obtain ⟨ws0, hws0⟩ : ∃ r, r = ws.take 10 := ⟨_, rfl⟩
    have hm1 : rs0.length ≤ 10 := by rw [hrs0, List.length_take]; omega
    have hm2 : ws0.length ≤ 10 := by rw [hws0, List.length_take]; omega
    have hq1 : RdsOk rs0 := by rw [hrs0]; exact ho1.take 10
    have hq2 : WrsOk ws0 := by rw [hws0]; exact ho2.take 10
    have h4 := f4_ok σ1.hp σ1.st cx.ro kind key val X Y rs ws (hrN _) hX hY hn1 hn2
    rw [← hrs0, ← hws0] at h4
    obtain ⟨env3, x3a, x3b, x3c, x3d⟩ := r7 cx env2 σ1 _ kind key val X Y ((slV 2 (rs0.map encRd))) ((slV 3 (ws0.map encWr))) x2b hcx f8 g1 hX.plain hY.plain slV_plain slV_plain h4 (hw0 _) (hhz _)
    have f1 := (x3d 1 (by decide)).trans f1
    have f5 := (x3d 5 (by decide)).trans f5
    have f6 := (x3d 6 (by decide)).trans f6
    have f7 := (x3d 7 (by decide)).trans f7
    have f8 := (x3d 8 (by decide)).trans f8
    have f23 := (x3d 23 (by decide)).trans f23
    have f24 := (x3d 24 (by decide)).trans f24
    have f25 := (x3d 25 (by decide)).trans f25
    have f9 := x3c
    have g3 : ((σ1 : AS).push false (.cells [.int .i64 kind, .str key, .str val, (slV 2 (rs0.map encRd)), (slV 3 (ws0.map encWr))])).get (.st (σ1 : AS).st.length) = some (.cells [.int .i64 kind, .str key, .str val, (slV 2 (rs0.map encRd)), (slV 3 (ws0.map encWr))]) := AS.get_push_at rfl
    have g1 := get_push' (ob' := .cells [.int .i64 kind, .str key, .str val, (slV 2 (rs0.map encRd)), (slV 3 (ws0.map encWr))]) g1
    have hR := hR.push (ob := .cells [.int .i64 kind, .str key, .str val, (slV 2 (rs0.map encRd)), (slV 3 (ws0.map encWr))])
    generalize hib3 : (σ1 : AS).st.length = ib3 at g3 f9
    have hpn3 : ((σ1 : AS).push false (.cells [.int .i64 kind, .str key, .str val, (slV 2 (rs0.map encRd)), (slV 3 (ws0.map encWr))])).hp = (σ1 : AS).hp := rfl
    generalize (σ1 : AS).push false (.cells [.int .i64 kind, .str key, .str val, (slV 2 (rs0.map encRd)), (slV 3 (ws0.map encWr))]) = σ3 at x3a g3 g1 hR hpn3
    have hh := hpn3.trans hh
    have h5 := f5_ok σ3.hp σ3.st cx.ro kind key val rs0 ws0 (hrN _) (by omega) (by omega)
    obtain ⟨env4, x4a, x4b, x4c, x4d⟩ := r8 cx env3 σ3 _ kind key val ((slV 2 (rs0.map encRd))) ((slV 3 (ws0.map encWr))) x3b hcx f9 g3 slV_plain slV_plain h5 (hw0 _) (hhz _)
    have f1 := (x4d 1 (by decide)).trans f1
    have f5 := (x4d 5 (by decide)).trans f5
    have f6 := (x4d 6 (by decide)).trans f6
    have f7 := (x4d 7 (by decide)).trans f7
    have f8 := (x4d 8 (by decide)).trans f8
    have f9 := (x4d 9 (by decide)).trans f9
    have f23 := (x4d 23 (by decide)).trans f23
    have f24 := (x4d 24 (by decide)).trans f24
    have f25 := (x4d 25 (by decide)).trans f25
    have f10 := x4c
    have g4 : ((σ3 : AS).push false (.cells [.int .i64 kind, .str key, .str val, (slV 2 (rs0.map encRd)), (slV 3 (ws0.map encWr))])).get (.st (σ3 : AS).st.length) = some (.cells [.int .i64 kind, .str key, .str val, (slV 2 (rs0.map encRd)), (slV 3 (ws0.map encWr))]) := AS.get_push_at rfl
    have g1 := get_push' (ob' := .cells [.int .i64 kind, .str key, .str val, (slV 2 (rs0.map encRd)), (slV 3 (ws0.map encWr))]) g1
    have g3 := get_push' (ob' := .cells [.int .i64 kind, .str key, .str val, (slV 2 (rs0.map encRd)), (slV 3 (ws0.map encWr))]) g3
    have hR := hR.push (ob := .cells [.int .i64 kind, .str key, .str val, (slV 2 (rs0.map encRd)), (slV 3 (ws0.map encWr))])
    generalize hib4 : (σ3 : AS).st.length = ib4 at g4 f10
    have hpn4 : ((σ3 : AS).push false (.cells [.int .i64 kind, .str key, .str val, (slV 2 (rs0.map encRd)), (slV 3 (ws0.map encWr))])).hp = (σ3 : AS).hp := rfl
    generalize (σ3 : AS).push false (.cells [.int .i64 kind, .str key, .str val, (slV 2 (rs0.map encRd)), (slV 3 (ws0.map encWr))]) = σ4 at x4a g4 g1 g3 hR hpn4
    have hh := hpn4.trans hh
    have hcv : convA Try.prog σ4 3 39 (.int .i64 (k : Int)) = some (.int .u64 (k : Int)) := by
      rw [show convA Try.prog σ4 3 39 (.int .i64 (k : Int)) = some (.int .u64 (wr .u64 (k : Int))) by simp [convA], wr_u64 (by omega) (by omega)]
    obtain ⟨env5, x5a, x5b, x5c, x5d⟩ := r9 cx env4 σ4 k x4b hcx f7 hcv (wr_u64 (by omega) (by omega)) (hw0 _) (hhz _)
    have f1 := (x5d 1 (by decide)).trans f1
    have f5 := (x5d 5 (by decide)).trans f5
    have f6 := (x5d 6 (by decide)).trans f6
    have f7 := (x5d 7 (by decide)).trans f7
    have f8 := (x5d 8 (by decide)).trans f8
    have f9 := (x5d 9 (by decide)).trans f9
    have f10 := (x5d 10 (by decide)).trans f10
    have f23 := (x5d 23 (by decide)).trans f23
    have f24 := (x5d 24 (by decide)).trans f24
    have f25 := (x5d 25 (by decide)).trans f25
    have f11 := x5c
    have g5 : ((σ4 : AS).push false (.cells [.int .i64 ((k : Int).tmod 6), .int .u64 ((k : Int) + 1)])).get (.st (σ4 : AS).st.length) = some (.cells [.int .i64 ((k : Int).tmod 6), .int .u64 ((k : Int) + 1)]) := AS.get_push_at rfl
    have g1 := get_push' (ob' := .cells [.int .i64 ((k : Int).tmod 6), .int .u64 ((k : Int) + 1)]) g1
    have g3 := get_push' (ob' := .cells [.int .i64 ((k : Int).tmod 6), .int .u64 ((k : Int) + 1)]) g3
    have g4 := get_push' (ob' := .cells [.int .i64 ((k : Int).tmod 6), .int .u64 ((k : Int) + 1)]) g4
    have hR := hR.push (ob := .cells [.int .i64 ((k : Int).tmod 6), .int .u64 ((k : Int) + 1)])
    generalize hib5 : (σ4 : AS).st.length = ib5 at g5 f11
    have hpn5 : ((σ4 : AS).push false (.cells [.int .i64 ((k : Int).tmod 6), .int .u64 ((k : Int) + 1)])).hp = (σ4 : AS).hp := rfl
    generalize (σ4 : AS).push false (.cells [.int .i64 ((k : Int).tmod 6), .int .u64 ((k : Int) + 1)]) = σ5 at x5a g5 g1 g3 g4 hR hpn5
    have hh := hpn5.trans hh
    obtain ⟨bM, h6⟩ := f6_ok σ5.hp σ5.st cx.ro kind key val _ _ rs0 ws0 (hrN _) slOf_slV slOf_slV hks hvs (by omega) (by omega) hq1 hq2
    cases bM with
    | false =>
      obtain ⟨env6, x6a, x6b, x6c, x6d⟩ := rM0 cx env5 σ5 _ kind key val ((slV 2 (rs0.map encRd))) ((slV 3 (ws0.map encWr))) x5b hcx f10 g4 slV_plain slV_plain h6 
      have f1 := (x6d 1 (by decide)).trans f1
      have f5 := (x6d 5 (by decide)).trans f5
      have f6 := (x6d 6 (by decide)).trans f6
      have f7 := (x6d 7 (by decide)).trans f7
      have f8 := (x6d 8 (by decide)).trans f8
      have f9 := (x6d 9 (by decide)).trans f9
      have f10 := (x6d 10 (by decide)).trans f10
      have f11 := (x6d 11 (by decide)).trans f11
      have f23 := (x6d 23 (by decide)).trans f23
      have f24 := (x6d 24 (by decide)).trans f24
      have f25 := (x6d 25 (by decide)).trans f25
      exact ⟨.normal, env6, _, (block_out (execW_seq_of x1a (execW_seq_of x2a (execW_seq_of x3a (execW_seq_of x4a (execW_seq_of x5a (execW_seq_exit x6a))))))), .inl ⟨rfl, x6b, f25, f24, f1, f5, f23, (by omega), (by rw [f6]; exact ⟨l, H, S, M, hR, hL.skip, (by rw [hh]; exact hA), (by rw [hh]; exact hM)⟩), trivial⟩⟩
    | true =>
      obtain ⟨env6, x6a, x6b, x6c, x6d⟩ := rM1 cx env5 σ5 _ kind key val ((slV 2 (rs0.map encRd))) ((slV 3 (ws0.map encWr))) x5b hcx f10 g4 slV_plain slV_plain h6 
      have f1 := (x6d 1 (by decide)).trans f1
      have f5 := (x6d 5 (by decide)).trans f5
      have f6 := (x6d 6 (by decide)).trans f6
      have f7 := (x6d 7 (by decide)).trans f7
      have f8 := (x6d 8 (by decide)).trans f8
      have f9 := (x6d 9 (by decide)).trans f9
      have f10 := (x6d 10 (by decide)).trans f10
      have f11 := (x6d 11 (by decide)).trans f11
      have f23 := (x6d 23 (by decide)).trans f23
      have f24 := (x6d 24 (by decide)).trans f24
      have f25 := (x6d 25 (by decide)).trans f25
      have hlt10 := lt_of_get g4
      obtain ⟨env7, x7a, x7b, x7c, x7d⟩ := r11 cx env6 σ5 k _ _ kind key val ((slV 2 (rs0.map encRd))) ((slV 3 (ws0.map encWr))) x6b hcx f7 f10 f11 g4 slV_plain slV_plain g5 (wr_ok (by omega) (by omega)) (wr_ok (by omega) (by omega)) (wr_ok (by omega) (by omega)) (wr_ok (by omega) (by omega)) (hw0 _) (hhz _)
      have f1 := (x7d 1 (by decide)).trans f1
      have f5 := (x7d 5 (by decide)).trans f5
      have f6 := (x7d 6 (by decide)).trans f6
      have f7 := (x7d 7 (by decide)).trans f7
      have f8 := (x7d 8 (by decide)).trans f8
      have f9 := (x7d 9 (by decide)).trans f9
      have f10 := (x7d 10 (by decide)).trans f10
      have f11 := (x7d 11 (by decide)).trans f11
      have f23 := (x7d 23 (by decide)).trans f23
      have f24 := (x7d 24 (by decide)).trans f24
      have f25 := (x7d 25 (by decide)).trans f25
      have f12 := x7c
      have g7 : ((σ5 : AS).push false (.cells [.int .i64 ((k : Int).tmod 6), .int .u64 ((k : Int) + 1), .int .i64 kind, .str key, .str val, (slV 2 (rs0.map encRd)), (slV 3 (ws0.map encWr)), .int .i64 (10 * (k : Int) + 1), .int .i64 (10 * (k : Int) + 2), .int .i64 (10 * (k : Int) + 3), .int .i64 0, .int .i64 ((k : Int).tmod 6), .int .u64 ((k : Int) + 1), .int .i64 0, .int .i64 0, .str ⟨#[]⟩, .int .u64 0])).get (.st (σ5 : AS).st.length) = some (.cells [.int .i64 ((k : Int).tmod 6), .int .u64 ((k : Int) + 1), .int .i64 kind, .str key, .str val, (slV 2 (rs0.map encRd)), (slV 3 (ws0.map encWr)), .int .i64 (10 * (k : Int) + 1), .int .i64 (10 * (k : Int) + 2), .int .i64 (10 * (k : Int) + 3), .int .i64 0, .int .i64 ((k : Int).tmod 6), .int .u64 ((k : Int) + 1), .int .i64 0, .int .i64 0, .str ⟨#[]⟩, .int .u64 0]) := AS.get_push_at rfl
      have g1 := get_push' (ob' := .cells [.int .i64 ((k : Int).tmod 6), .int .u64 ((k : Int) + 1), .int .i64 kind, .str key, .str val, (slV 2 (rs0.map encRd)), (slV 3 (ws0.map encWr)), .int .i64 (10 * (k : Int) + 1), .int .i64 (10 * (k : Int) + 2), .int .i64 (10 * (k : Int) + 3), .int .i64 0, .int .i64 ((k : Int).tmod 6), .int .u64 ((k : Int) + 1), .int .i64 0, .int .i64 0, .str ⟨#[]⟩, .int .u64 0]) g1
      have g3 := get_push' (ob' := .cells [.int .i64 ((k : Int).tmod 6), .int .u64 ((k : Int) + 1), .int .i64 kind, .str key, .str val, (slV 2 (rs0.map encRd)), (slV 3 (ws0.map encWr)), .int .i64 (10 * (k : Int) + 1), .int .i64 (10 * (k : Int) + 2), .int .i64 (10 * (k : Int) + 3), .int .i64 0, .int .i64 ((k : Int).tmod 6), .int .u64 ((k : Int) + 1), .int .i64 0, .int .i64 0, .str ⟨#[]⟩, .int .u64 0]) g3
      have g4 := get_push' (ob' := .cells [.int .i64 ((k : Int).tmod 6), .int .u64 ((k : Int) + 1), .int .i64 kind, .str key, .str val, (slV 2 (rs0.map encRd)), (slV 3 (ws0.map encWr)), .int .i64 (10 * (k : Int) + 1), .int .i64 (10 * (k : Int) + 2), .int .i64 (10 * (k : Int) + 3), .int .i64 0, .int .i64 ((k : Int).tmod 6), .int .u64 ((k : Int) + 1), .int .i64 0, .int .i64 0, .str ⟨#[]⟩, .int .u64 0]) g4
      have g5 := get_push' (ob' := .cells [.int .i64 ((k : Int).tmod 6), .int .u64 ((k : Int) + 1), .int .i64 kind, .str key, .str val, (slV 2 (rs0.map encRd)), (slV 3 (ws0.map encWr)), .int .i64 (10 * (k : Int) + 1), .int .i64 (10 * (k : Int) + 2), .int .i64 (10 * (k : Int) + 3), .int .i64 0, .int .i64 ((k : Int).tmod 6), .int .u64 ((k : Int) + 1), .int .i64 0, .int .i64 0, .str ⟨#[]⟩, .int .u64 0]) g5
      have hR := hR.push (ob := .cells [.int .i64 ((k : Int).tmod 6), .int .u64 ((k : Int) + 1), .int .i64 kind, .str key, .str val, (slV 2 (rs0.map encRd)), (slV 3 (ws0.map encWr)), .int .i64 (10 * (k : Int) + 1), .int .i64 (10 * (k : Int) + 2), .int .i64 (10 * (k : Int) + 3), .int .i64 0, .int .i64 ((k : Int).tmod 6), .int .u64 ((k : Int) + 1), .int .i64 0, .int .i64 0, .str ⟨#[]⟩, .int .u64 0])
      generalize hib7 : (σ5 : AS).st.length = ib7 at g7 f12
      have hpn7 : ((σ5 : AS).push false (.cells [.int .i64 ((k : Int).tmod 6), .int .u64 ((k : Int) + 1), .int .i64 kind, .str key, .str val, (slV 2 (rs0.map encRd)), (slV 3 (ws0.map encWr)), .int .i64 (10 * (k : Int) + 1), .int .i64 (10 * (k : Int) + 2), .int .i64 (10 * (k : Int) + 3), .int .i64 0, .int .i64 ((k : Int).tmod 6), .int .u64 ((k : Int) + 1), .int .i64 0, .int .i64 0, .str ⟨#[]⟩, .int .u64 0])).hp = (σ5 : AS).hp := rfl
      generalize (σ5 : AS).push false (.cells [.int .i64 ((k : Int).tmod 6), .int .u64 ((k : Int) + 1), .int .i64 kind, .str key, .str val, (slV 2 (rs0.map encRd)), (slV 3 (ws0.map encWr)), .int .i64 (10 * (k : Int) + 1), .int .i64 (10 * (k : Int) + 2), .int .i64 (10 * (k : Int) + 3), .int .i64 0, .int .i64 ((k : Int).tmod 6), .int .u64 ((k : Int) + 1), .int .i64 0, .int .i64 0, .str ⟨#[]⟩, .int .u64 0]) = σ7 at x7a g7 g1 g3 g4 g5 hR hpn7
      have hh := hpn7.trans hh
      have hc0 : ib4 ≠ ib7 := Nat.ne_of_lt (hib7 ▸ hlt10)
      have h7 := F7.ok σ7.hp σ7.st cx.ro b key M S (hrN _) (by rw [hh]; exact hA) (by rw [hh]; exact hM) (by have := hL.slen; omega)
      have hlt12 := lt_of_get g7
      obtain ⟨env8, x8a, x8b, x8c, x8d⟩ := r12 cx env7 σ7 b _ kind key val ((slV 2 (rs0.map encRd))) ((slV 3 (ws0.map encWr))) key ((ofK S key).1) ((ofK S key).2.1) ((ofK S key).2.2) x7b hcx f5 f10 g4 slV_plain slV_plain h7 (hw0 _) (hhz _)
      have f1 := (x8d 1 (by decide)).trans f1
      have f5 := (x8d 5 (by decide)).trans f5
      have f6 := (x8d 6 (by decide)).trans f6
      have f7 := (x8d 7 (by decide)).trans f7
      have f8 := (x8d 8 (by decide)).trans f8
      have f9 := (x8d 9 (by decide)).trans f9
      have f10 := (x8d 10 (by decide)).trans f10
      have f11 := (x8d 11 (by decide)).trans f11
      have f12 := (x8d 12 (by decide)).trans f12
      have f23 := (x8d 23 (by decide)).trans f23
      have f24 := (x8d 24 (by decide)).trans f24
      have f25 := (x8d 25 (by decide)).trans f25
      have f13 := x8c
      have g8 : ((σ7 : AS).push false (.cells [.str key, .int .u64 (ofK S key).1, .str (ofK S key).2.1, .bool (ofK S key).2.2])).get (.st (σ7 : AS).st.length) = some (.cells [.str key, .int .u64 (ofK S key).1, .str (ofK S key).2.1, .bool (ofK S key).2.2]) := AS.get_push_at rfl
      have g1 := get_push' (ob' := .cells [.str key, .int .u64 (ofK S key).1, .str (ofK S key).2.1, .bool (ofK S key).2.2]) g1
      have g3 := get_push' (ob' := .cells [.str key, .int .u64 (ofK S key).1, .str (ofK S key).2.1, .bool (ofK S key).2.2]) g3
      have g4 := get_push' (ob' := .cells [.str key, .int .u64 (ofK S key).1, .str (ofK S key).2.1, .bool (ofK S key).2.2]) g4
      have g5 := get_push' (ob' := .cells [.str key, .int .u64 (ofK S key).1, .str (ofK S key).2.1, .bool (ofK S key).2.2]) g5
      have g7 := get_push' (ob' := .cells [.str key, .int .u64 (ofK S key).1, .str (ofK S key).2.1, .bool (ofK S key).2.2]) g7
      have hR := hR.push (ob := .cells [.str key, .int .u64 (ofK S key).1, .str (ofK S key).2.1, .bool (ofK S key).2.2])
      generalize hib8 : (σ7 : AS).st.length = ib8 at g8 f13
      have hpn8 : ((σ7 : AS).push false (.cells [.str key, .int .u64 (ofK S key).1, .str (ofK S key).2.1, .bool (ofK S key).2.2])).hp = (σ7 : AS).hp := rfl
      generalize (σ7 : AS).push false (.cells [.str key, .int .u64 (ofK S key).1, .str (ofK S key).2.1, .bool (ofK S key).2.2]) = σ8 at x8a g8 g1 g3 g4 g5 g7 hR hpn8
      have hh := hpn8.trans hh
      have hc1 : ib8 ≠ ib7 := (Nat.ne_of_lt (hib8 ▸ hlt12)).symm
      obtain ⟨tc, ts, TR, TW, h8, hTR, hTW⟩ := f8_ok σ8.hp σ8.st cx.ro kind ((k : Int).tmod 6) ((k : Int) + 1) key val _ _ rs0 ws0 (hrN _) slOf_slV slOf_slV
      have htl := txnP_len (kind := kind) (key := key) (val := val) (rs := rs0) (ws := ws0) (m := 10) (by omega) hm1 hm2
      obtain ⟨T, hT⟩ : ∃ T, T = txnP kind key val rs0 ws0 := ⟨_, rfl⟩
      rw [← hT] at h8 hTR hTW htl
      obtain ⟨env9, x9a, x9b, x9c, x9d⟩ := r13 cx env8 σ8 k _ _ kind key val ((slV 2 (rs0.map encRd))) ((slV 3 (ws0.map encWr))) tc ts T.1 TR TW x8b hcx f10 f11 g4 slV_plain slV_plain g5 hTR.plain hTW.plain h8 (hw0 _) (hhz _)
      have f1 := (x9d 1 (by decide)).trans f1
      have f5 := (x9d 5 (by decide)).trans f5
      have f6 := (x9d 6 (by decide)).trans f6
      have f7 := (x9d 7 (by decide)).trans f7
      have f8 := (x9d 8 (by decide)).trans f8
      have f9 := (x9d 9 (by decide)).trans f9
      have f10 := (x9d 10 (by decide)).trans f10
      have f11 := (x9d 11 (by decide)).trans f11
      have f12 := (x9d 12 (by decide)).trans f12
      have f13 := (x9d 13 (by decide)).trans f13
      have f23 := (x9d 23 (by decide)).trans f23
      have f24 := (x9d 24 (by decide)).trans f24
      have f25 := (x9d 25 (by decide)).trans f25
      have f14 := x9c
      have g9 : ((σ8 : AS).push false (.cells [.int .i64 tc, .int .u64 ts, .bool T.1, TR, TW])).get (.st (σ8 : AS).st.length) = some (.cells [.int .i64 tc, .int .u64 ts, .bool T.1, TR, TW]) := AS.get_push_at rfl
      have g1 := get_push' (ob' := .cells [.int .i64 tc, .int .u64 ts, .bool T.1, TR, TW]) g1
      have g3 := get_push' (ob' := .cells [.int .i64 tc, .int .u64 ts, .bool T.1, TR, TW]) g3
      have g4 := get_push' (ob' := .cells [.int .i64 tc, .int .u64 ts, .bool T.1, TR, TW]) g4
      have g5 := get_push' (ob' := .cells [.int .i64 tc, .int .u64 ts, .bool T.1, TR, TW]) g5
      have g7 := get_push' (ob' := .cells [.int .i64 tc, .int .u64 ts, .bool T.1, TR, TW]) g7
      have g8 := get_push' (ob' := .cells [.int .i64 tc, .int .u64 ts, .bool T.1, TR, TW]) g8
      have hR := hR.push (ob := .cells [.int .i64 tc, .int .u64 ts, .bool T.1, TR, TW])
      generalize hib9 : (σ8 : AS).st.length = ib9 at g9 f14
      have hpn9 : ((σ8 : AS).push false (.cells [.int .i64 tc, .int .u64 ts, .bool T.1, TR, TW])).hp = (σ8 : AS).hp := rfl
      generalize (σ8 : AS).push false (.cells [.int .i64 tc, .int .u64 ts, .bool T.1, TR, TW]) = σ9 at x9a g9 g1 g3 g4 g5 g7 g8 hR hpn9
      have hh := hpn9.trans hh
      have hl1 := (rd29 (σ := σ9) hTR).1
      rw [List.length_map] at hl1
      obtain ⟨env10, x10a, x10b, x10c, x10d⟩ := r14 cx env9 σ9 _ T.2.1.length tc ts T.1 TR TW x9b hcx f14 g9 hTR.plain hTW.plain hl1 
      have f1 := (x10d 1 (by decide)).trans f1
      have f5 := (x10d 5 (by decide)).trans f5
      have f6 := (x10d 6 (by decide)).trans f6
      have f7 := (x10d 7 (by decide)).trans f7
      have f8 := (x10d 8 (by decide)).trans f8
      have f9 := (x10d 9 (by decide)).trans f9
      have f10 := (x10d 10 (by decide)).trans f10
      have f11 := (x10d 11 (by decide)).trans f11
      have f12 := (x10d 12 (by decide)).trans f12
      have f13 := (x10d 13 (by decide)).trans f13
      have f14 := (x10d 14 (by decide)).trans f14
      have f23 := (x10d 23 (by decide)).trans f23
      have f24 := (x10d 24 (by decide)).trans f24
      have f25 := (x10d 25 (by decide)).trans f25
      have f67 := x10c.1
      have f68 := x10c.2.1
      have f69 := x10c.2.2
      have hcz : (if staleS S (T.2.1.take 0) = true then (8 : Int) else 0) = 0 := rfl
      have g12z : σ9.get (.st ib7) = some (.cells [.int .i64 ((k : Int).tmod 6), .int .u64 ((k : Int) + 1), .int .i64 kind, .str key, .str val, slV 2 (rs0.map encRd), slV 3 (ws0.map encWr), .int .i64 (10 * (k : Int) + 1), .int .i64 (10 * (k : Int) + 2), .int .i64 (10 * (k : Int) + 3), .int .i64 (if staleS S (T.2.1.take 0) = true then 8 else 0), .int .i64 ((k : Int).tmod 6), .int .u64 ((k : Int) + 1), .int .i64 0, .int .i64 0, .str ⟨#[]⟩, .int .u64 0]) := by rw [hcz]; exact g7
      obtain ⟨e11, env11, σ11, x11a, x11p⟩ := loop2 cx hcx hro σ9 b k ib4 ib7 ib8 at_ kind key val rs0 ws0 (ofK S key) es (l.map encRow) R TR T.2.1 S hr0 hh0 M (by rw [hh]; exact hA) (by rw [hh]; exact hM) (by have := hL.slen; omega) hTR hc0 hc1 (by omega) (σ := σ9) x10b f69 f68 (⟨f1, f5, f6, f7, f10, f12, f13, f23, f24, f25, f67, g4, g12z, g8, hR, rfl, trivial⟩)
      rcases x11p with ⟨rfl, ⟨x11b, f1, f5, f6, f7, f10, f12, f13, f23, f24, f25, f67, q0, q1, q2, q3, q4, ho⟩ | x11p⟩ | ⟨x11q, x11r, x11p⟩
      · skip
        rw [List.take_length] at q1
        have hh := q4.trans hh
        have g10 := q0
        have g12 := q1
        have g13 := q2
        have hR := q3
        obtain ⟨env12, x12a, x12b, x12c, x12d⟩ := r20 cx env11 σ11 _ kind key val ((slV 2 (rs0.map encRd))) ((slV 3 (ws0.map encWr))) x11b hcx f10 g10 slV_plain slV_plain 
        have f1 := (x12d 1 (by decide)).trans f1
        have f5 := (x12d 5 (by decide)).trans f5
        have f6 := (x12d 6 (by decide)).trans f6
        have f7 := (x12d 7 (by decide)).trans f7
        have f10 := (x12d 10 (by decide)).trans f10
        have f12 := (x12d 12 (by decide)).trans f12
        have f13 := (x12d 13 (by decide)).trans f13
        have f23 := (x12d 23 (by decide)).trans f23
        have f24 := (x12d 24 (by decide)).trans f24
        have f25 := (x12d 25 (by decide)).trans f25
        have f85 := x12c
        have ev1 := ev_tmp f85
        by_cases qk : kind = 1
        · rw [decide_eq_true qk] at ev1
          have hcode0 : (if staleS S T.2.1 = true then 8 else 0) = (0 : Int) := by rw [hT, qk]; rfl
          rw [hcode0] at g12
          obtain ⟨env13, x13a, x13b, x13c, x13d⟩ := r21 cx env12 σ11 k _ 0 0 (⟨#[]⟩) 0 kind key val ((slV 2 (rs0.map encRd))) ((slV 3 (ws0.map encWr))) _ key ((ofK S key).1) ((ofK S key).2.1) ((ofK S key).2.2) x12b hcx f12 f13 g12 slV_plain slV_plain (hw0 _) (hhz _) g13 
          have f1 := (x13d 1 (by decide)).trans f1
          have f5 := (x13d 5 (by decide)).trans f5
          have f6 := (x13d 6 (by decide)).trans f6
          have f7 := (x13d 7 (by decide)).trans f7
          have f10 := (x13d 10 (by decide)).trans f10
          have f12 := (x13d 12 (by decide)).trans f12
          have f13 := (x13d 13 (by decide)).trans f13
          have f23 := (x13d 23 (by decide)).trans f23
          have f24 := (x13d 24 (by decide)).trans f24
          have f25 := (x13d 25 (by decide)).trans f25
          have f85 := (x13d 85 (by decide)).trans f85
          have g10 := get_set' (ob' := .cells [.int .i64 ((k : Int).tmod 6), .int .u64 ((k : Int) + 1), .int .i64 kind, .str key, .str val, slV 2 (rs0.map encRd), slV 3 (ws0.map encWr), .int .i64 (10 * (k : Int) + 1), .int .i64 (10 * (k : Int) + 2), .int .i64 (10 * (k : Int) + 3), .int .i64 0, .int .i64 ((k : Int).tmod 6), .int .u64 ((k : Int) + 1), .int .i64 0, .int .i64 0, .str (ofK S key).2.1, .int .u64 0]) g10 hc0
          have g13 := get_set' (ob' := .cells [.int .i64 ((k : Int).tmod 6), .int .u64 ((k : Int) + 1), .int .i64 kind, .str key, .str val, slV 2 (rs0.map encRd), slV 3 (ws0.map encWr), .int .i64 (10 * (k : Int) + 1), .int .i64 (10 * (k : Int) + 2), .int .i64 (10 * (k : Int) + 3), .int .i64 0, .int .i64 ((k : Int).tmod 6), .int .u64 ((k : Int) + 1), .int .i64 0, .int .i64 0, .str (ofK S key).2.1, .int .u64 0]) g13 hc1
          have hR := hR.setc (ob := .cells [.int .i64 ((k : Int).tmod 6), .int .u64 ((k : Int) + 1), .int .i64 kind, .str key, .str val, slV 2 (rs0.map encRd), slV 3 (ws0.map encWr), .int .i64 (10 * (k : Int) + 1), .int .i64 (10 * (k : Int) + 2), .int .i64 (10 * (k : Int) + 3), .int .i64 0, .int .i64 ((k : Int).tmod 6), .int .u64 ((k : Int) + 1), .int .i64 0, .int .i64 0, .str (ofK S key).2.1, .int .u64 0]) g12
          have g12 := get_set_at (ob' := .cells [.int .i64 ((k : Int).tmod 6), .int .u64 ((k : Int) + 1), .int .i64 kind, .str key, .str val, slV 2 (rs0.map encRd), slV 3 (ws0.map encWr), .int .i64 (10 * (k : Int) + 1), .int .i64 (10 * (k : Int) + 2), .int .i64 (10 * (k : Int) + 3), .int .i64 0, .int .i64 ((k : Int).tmod 6), .int .u64 ((k : Int) + 1), .int .i64 0, .int .i64 0, .str (ofK S key).2.1, .int .u64 0]) g12
          have hh : (σ11.set (.st ib7) (.cells [.int .i64 ((k : Int).tmod 6), .int .u64 ((k : Int) + 1), .int .i64 kind, .str key, .str val, slV 2 (rs0.map encRd), slV 3 (ws0.map encWr), .int .i64 (10 * (k : Int) + 1), .int .i64 (10 * (k : Int) + 2), .int .i64 (10 * (k : Int) + 3), .int .i64 0, .int .i64 ((k : Int).tmod 6), .int .u64 ((k : Int) + 1), .int .i64 0, .int .i64 0, .str (ofK S key).2.1, .int .u64 0])).hp = hp0 := hh
          generalize σ11.set (.st ib7) (.cells [.int .i64 ((k : Int).tmod 6), .int .u64 ((k : Int) + 1), .int .i64 kind, .str key, .str val, slV 2 (rs0.map encRd), slV 3 (ws0.map encWr), .int .i64 (10 * (k : Int) + 1), .int .i64 (10 * (k : Int) + 2), .int .i64 (10 * (k : Int) + 3), .int .i64 0, .int .i64 ((k : Int).tmod 6), .int .u64 ((k : Int) + 1), .int .i64 0, .int .i64 0, .str (ofK S key).2.1, .int .u64 0]) = σs13 at x13a g10 g13 hR g12 hh
          obtain ⟨env14, x14a, x14b, x14c, x14d⟩ := r22 cx env13 σs13 k _ 0 0 ((ofK S key).2.1) 0 kind key val ((slV 2 (rs0.map encRd))) ((slV 3 (ws0.map encWr))) _ key ((ofK S key).1) ((ofK S key).2.1) ((ofK S key).2.2) x13b hcx f12 f13 g12 slV_plain slV_plain (hw0 _) (hhz _) g13 
          have f1 := (x14d 1 (by decide)).trans f1
          have f5 := (x14d 5 (by decide)).trans f5
          have f6 := (x14d 6 (by decide)).trans f6
          have f7 := (x14d 7 (by decide)).trans f7
          have f10 := (x14d 10 (by decide)).trans f10
          have f12 := (x14d 12 (by decide)).trans f12
          have f13 := (x14d 13 (by decide)).trans f13
          have f23 := (x14d 23 (by decide)).trans f23
          have f24 := (x14d 24 (by decide)).trans f24
          have f25 := (x14d 25 (by decide)).trans f25
          have f85 := (x14d 85 (by decide)).trans f85
          have g10 := get_set' (ob' := .cells [.int .i64 ((k : Int).tmod 6), .int .u64 ((k : Int) + 1), .int .i64 kind, .str key, .str val, slV 2 (rs0.map encRd), slV 3 (ws0.map encWr), .int .i64 (10 * (k : Int) + 1), .int .i64 (10 * (k : Int) + 2), .int .i64 (10 * (k : Int) + 3), .int .i64 0, .int .i64 ((k : Int).tmod 6), .int .u64 ((k : Int) + 1), .int .i64 0, .int .i64 0, .str (ofK S key).2.1, .int .u64 (ofK S key).1]) g10 hc0
          have g13 := get_set' (ob' := .cells [.int .i64 ((k : Int).tmod 6), .int .u64 ((k : Int) + 1), .int .i64 kind, .str key, .str val, slV 2 (rs0.map encRd), slV 3 (ws0.map encWr), .int .i64 (10 * (k : Int) + 1), .int .i64 (10 * (k : Int) + 2), .int .i64 (10 * (k : Int) + 3), .int .i64 0, .int .i64 ((k : Int).tmod 6), .int .u64 ((k : Int) + 1), .int .i64 0, .int .i64 0, .str (ofK S key).2.1, .int .u64 (ofK S key).1]) g13 hc1
          have hR := hR.setc (ob := .cells [.int .i64 ((k : Int).tmod 6), .int .u64 ((k : Int) + 1), .int .i64 kind, .str key, .str val, slV 2 (rs0.map encRd), slV 3 (ws0.map encWr), .int .i64 (10 * (k : Int) + 1), .int .i64 (10 * (k : Int) + 2), .int .i64 (10 * (k : Int) + 3), .int .i64 0, .int .i64 ((k : Int).tmod 6), .int .u64 ((k : Int) + 1), .int .i64 0, .int .i64 0, .str (ofK S key).2.1, .int .u64 (ofK S key).1]) g12
          have g12 := get_set_at (ob' := .cells [.int .i64 ((k : Int).tmod 6), .int .u64 ((k : Int) + 1), .int .i64 kind, .str key, .str val, slV 2 (rs0.map encRd), slV 3 (ws0.map encWr), .int .i64 (10 * (k : Int) + 1), .int .i64 (10 * (k : Int) + 2), .int .i64 (10 * (k : Int) + 3), .int .i64 0, .int .i64 ((k : Int).tmod 6), .int .u64 ((k : Int) + 1), .int .i64 0, .int .i64 0, .str (ofK S key).2.1, .int .u64 (ofK S key).1]) g12
          have hh : (σs13.set (.st ib7) (.cells [.int .i64 ((k : Int).tmod 6), .int .u64 ((k : Int) + 1), .int .i64 kind, .str key, .str val, slV 2 (rs0.map encRd), slV 3 (ws0.map encWr), .int .i64 (10 * (k : Int) + 1), .int .i64 (10 * (k : Int) + 2), .int .i64 (10 * (k : Int) + 3), .int .i64 0, .int .i64 ((k : Int).tmod 6), .int .u64 ((k : Int) + 1), .int .i64 0, .int .i64 0, .str (ofK S key).2.1, .int .u64 (ofK S key).1])).hp = hp0 := hh
          generalize σs13.set (.st ib7) (.cells [.int .i64 ((k : Int).tmod 6), .int .u64 ((k : Int) + 1), .int .i64 kind, .str key, .str val, slV 2 (rs0.map encRd), slV 3 (ws0.map encWr), .int .i64 (10 * (k : Int) + 1), .int .i64 (10 * (k : Int) + 2), .int .i64 (10 * (k : Int) + 3), .int .i64 0, .int .i64 ((k : Int).tmod 6), .int .u64 ((k : Int) + 1), .int .i64 0, .int .i64 0, .str (ofK S key).2.1, .int .u64 (ofK S key).1]) = σs14 at x14a g10 g13 hR g12 hh
          obtain ⟨env15, x15a, x15b, x15c, x15d⟩ := r23 cx env14 σs14 _ key ((ofK S key).1) ((ofK S key).2.1) ((ofK S key).2.2) x14b hcx f13 g13 
          have f1 := (x15d 1 (by decide)).trans f1
          have f5 := (x15d 5 (by decide)).trans f5
          have f6 := (x15d 6 (by decide)).trans f6
          have f7 := (x15d 7 (by decide)).trans f7
          have f10 := (x15d 10 (by decide)).trans f10
          have f12 := (x15d 12 (by decide)).trans f12
          have f13 := (x15d 13 (by decide)).trans f13
          have f23 := (x15d 23 (by decide)).trans f23
          have f24 := (x15d 24 (by decide)).trans f24
          have f25 := (x15d 25 (by decide)).trans f25
          have f85 := (x15d 85 (by decide)).trans f85
          have f96 := x15c
          have ev2 := ev_tmp f96
          cases hhr : (ofK S key).2.2 with
          | true =>
              rw [hhr] at ev2
              obtain ⟨env16, x16a, x16b, x16c, x16d⟩ := r25 cx env15 σs14 _ kind key val ((slV 2 (rs0.map encRd))) ((slV 3 (ws0.map encWr))) x15b hcx f10 g10 slV_plain slV_plain 
              have f1 := (x16d 1 (by decide)).trans f1
              have f5 := (x16d 5 (by decide)).trans f5
              have f6 := (x16d 6 (by decide)).trans f6
              have f7 := (x16d 7 (by decide)).trans f7
              have f10 := (x16d 10 (by decide)).trans f10
              have f12 := (x16d 12 (by decide)).trans f12
              have f13 := (x16d 13 (by decide)).trans f13
              have f23 := (x16d 23 (by decide)).trans f23
              have f24 := (x16d 24 (by decide)).trans f24
              have f25 := (x16d 25 (by decide)).trans f25
              have f85 := (x16d 85 (by decide)).trans f85
              have f96 := (x16d 96 (by decide)).trans f96
              have f105 := x16c
              have ev3 := ev_tmp f105
              have e105 : (decide (kind = 2) || decide (kind = 3)) = false := by simp; omega
              rw [e105] at ev3
              obtain ⟨envt, σt, xta, xtb, hinv, hkt⟩ := tail cx hcx hr0 hh0 b k ib7 at_ hat (by omega) kind key val rs0 ws0 hm1 hm2 l H S hL R M env16 σs14 x16b 0 _ _ (by unfold codeOf; rw [if_pos qk, hhr, if_pos rfl]) (by unfold rvalOf; rw [if_pos qk]) (by unfold rnumOf; rw [if_pos qk]) f1 f5 f6 f12 g12 (hR.1 _ (List.mem_singleton_self _)) (by rw [hh]; exact hA) (by rw [hh]; exact hM)
              have f1 := (hkt 1 (by decide)).trans f1
              have f5 := (hkt 5 (by decide)).trans f5
              have f23 := (hkt 23 (by decide)).trans f23
              have f24 := (hkt 24 (by decide)).trans f24
              have f25 := (hkt 25 (by decide)).trans f25
              exact ⟨.normal, envt, _, (execW_block_of (execW_seq_of x1a (execW_seq_of x2a (execW_seq_of x3a (execW_seq_of x4a (execW_seq_of x5a (execW_seq_of x6a (execW_seq_of x7a (execW_seq_of x8a (execW_seq_of x9a (execW_seq_of (execW_seq_of x10a x11a) (execW_seq_of (execW_seq_of x12a (execW_cond_t ev1 (execW_seq_of x13a (execW_seq_of x14a (execW_seq_of x15a (execW_cond_f ev2 (by rfl))))))) (execW_seq_of (execW_seq_of x16a (execW_cond_f ev3 (by rfl))) xta))))))))))))), .inl ⟨rfl, xtb, f25, f24, f1, f5, f23, (by omega), hinv, trivial⟩⟩
          | false =>
              rw [hhr] at ev2
              obtain ⟨env16, x16a, x16b, x16c, x16d⟩ := r24 cx env15 σs14 k _ 0 0 ((ofK S key).2.1) ((ofK S key).1) kind key val ((slV 2 (rs0.map encRd))) ((slV 3 (ws0.map encWr))) x15b hcx f12 g12 slV_plain slV_plain (hw0 _) (hhz _) 
              have f1 := (x16d 1 (by decide)).trans f1
              have f5 := (x16d 5 (by decide)).trans f5
              have f6 := (x16d 6 (by decide)).trans f6
              have f7 := (x16d 7 (by decide)).trans f7
              have f10 := (x16d 10 (by decide)).trans f10
              have f12 := (x16d 12 (by decide)).trans f12
              have f13 := (x16d 13 (by decide)).trans f13
              have f23 := (x16d 23 (by decide)).trans f23
              have f24 := (x16d 24 (by decide)).trans f24
              have f25 := (x16d 25 (by decide)).trans f25
              have f85 := (x16d 85 (by decide)).trans f85
              have f96 := (x16d 96 (by decide)).trans f96
              have g10 := get_set' (ob' := .cells [.int .i64 ((k : Int).tmod 6), .int .u64 ((k : Int) + 1), .int .i64 kind, .str key, .str val, slV 2 (rs0.map encRd), slV 3 (ws0.map encWr), .int .i64 (10 * (k : Int) + 1), .int .i64 (10 * (k : Int) + 2), .int .i64 (10 * (k : Int) + 3), .int .i64 6, .int .i64 ((k : Int).tmod 6), .int .u64 ((k : Int) + 1), .int .i64 0, .int .i64 0, .str (ofK S key).2.1, .int .u64 (ofK S key).1]) g10 hc0
              have g13 := get_set' (ob' := .cells [.int .i64 ((k : Int).tmod 6), .int .u64 ((k : Int) + 1), .int .i64 kind, .str key, .str val, slV 2 (rs0.map encRd), slV 3 (ws0.map encWr), .int .i64 (10 * (k : Int) + 1), .int .i64 (10 * (k : Int) + 2), .int .i64 (10 * (k : Int) + 3), .int .i64 6, .int .i64 ((k : Int).tmod 6), .int .u64 ((k : Int) + 1), .int .i64 0, .int .i64 0, .str (ofK S key).2.1, .int .u64 (ofK S key).1]) g13 hc1
              have hR := hR.setc (ob := .cells [.int .i64 ((k : Int).tmod 6), .int .u64 ((k : Int) + 1), .int .i64 kind, .str key, .str val, slV 2 (rs0.map encRd), slV 3 (ws0.map encWr), .int .i64 (10 * (k : Int) + 1), .int .i64 (10 * (k : Int) + 2), .int .i64 (10 * (k : Int) + 3), .int .i64 6, .int .i64 ((k : Int).tmod 6), .int .u64 ((k : Int) + 1), .int .i64 0, .int .i64 0, .str (ofK S key).2.1, .int .u64 (ofK S key).1]) g12
              have g12 := get_set_at (ob' := .cells [.int .i64 ((k : Int).tmod 6), .int .u64 ((k : Int) + 1), .int .i64 kind, .str key, .str val, slV 2 (rs0.map encRd), slV 3 (ws0.map encWr), .int .i64 (10 * (k : Int) + 1), .int .i64 (10 * (k : Int) + 2), .int .i64 (10 * (k : Int) + 3), .int .i64 6, .int .i64 ((k : Int).tmod 6), .int .u64 ((k : Int) + 1), .int .i64 0, .int .i64 0, .str (ofK S key).2.1, .int .u64 (ofK S key).1]) g12
              have hh : (σs14.set (.st ib7) (.cells [.int .i64 ((k : Int).tmod 6), .int .u64 ((k : Int) + 1), .int .i64 kind, .str key, .str val, slV 2 (rs0.map encRd), slV 3 (ws0.map encWr), .int .i64 (10 * (k : Int) + 1), .int .i64 (10 * (k : Int) + 2), .int .i64 (10 * (k : Int) + 3), .int .i64 6, .int .i64 ((k : Int).tmod 6), .int .u64 ((k : Int) + 1), .int .i64 0, .int .i64 0, .str (ofK S key).2.1, .int .u64 (ofK S key).1])).hp = hp0 := hh
              generalize σs14.set (.st ib7) (.cells [.int .i64 ((k : Int).tmod 6), .int .u64 ((k : Int) + 1), .int .i64 kind, .str key, .str val, slV 2 (rs0.map encRd), slV 3 (ws0.map encWr), .int .i64 (10 * (k : Int) + 1), .int .i64 (10 * (k : Int) + 2), .int .i64 (10 * (k : Int) + 3), .int .i64 6, .int .i64 ((k : Int).tmod 6), .int .u64 ((k : Int) + 1), .int .i64 0, .int .i64 0, .str (ofK S key).2.1, .int .u64 (ofK S key).1]) = σs16 at x16a g10 g13 hR g12 hh
              obtain ⟨env17, x17a, x17b, x17c, x17d⟩ := r25 cx env16 σs16 _ kind key val ((slV 2 (rs0.map encRd))) ((slV 3 (ws0.map encWr))) x16b hcx f10 g10 slV_plain slV_plain 
              have f1 := (x17d 1 (by decide)).trans f1
              have f5 := (x17d 5 (by decide)).trans f5
              have f6 := (x17d 6 (by decide)).trans f6
              have f7 := (x17d 7 (by decide)).trans f7
              have f10 := (x17d 10 (by decide)).trans f10
              have f12 := (x17d 12 (by decide)).trans f12
              have f13 := (x17d 13 (by decide)).trans f13
              have f23 := (x17d 23 (by decide)).trans f23
              have f24 := (x17d 24 (by decide)).trans f24
              have f25 := (x17d 25 (by decide)).trans f25
              have f85 := (x17d 85 (by decide)).trans f85
              have f96 := (x17d 96 (by decide)).trans f96
              have f105 := x17c
              have ev3 := ev_tmp f105
              have e105 : (decide (kind = 2) || decide (kind = 3)) = false := by simp; omega
              rw [e105] at ev3
              obtain ⟨envt, σt, xta, xtb, hinv, hkt⟩ := tail cx hcx hr0 hh0 b k ib7 at_ hat (by omega) kind key val rs0 ws0 hm1 hm2 l H S hL R M env17 σs16 x17b 6 _ _ (by unfold codeOf; rw [if_pos qk, hhr]; rfl) (by unfold rvalOf; rw [if_pos qk]) (by unfold rnumOf; rw [if_pos qk]) f1 f5 f6 f12 g12 (hR.1 _ (List.mem_singleton_self _)) (by rw [hh]; exact hA) (by rw [hh]; exact hM)
              have f1 := (hkt 1 (by decide)).trans f1
              have f5 := (hkt 5 (by decide)).trans f5
              have f23 := (hkt 23 (by decide)).trans f23
              have f24 := (hkt 24 (by decide)).trans f24
              have f25 := (hkt 25 (by decide)).trans f25
              exact ⟨.normal, envt, _, (execW_block_of (execW_seq_of x1a (execW_seq_of x2a (execW_seq_of x3a (execW_seq_of x4a (execW_seq_of x5a (execW_seq_of x6a (execW_seq_of x7a (execW_seq_of x8a (execW_seq_of x9a (execW_seq_of (execW_seq_of x10a x11a) (execW_seq_of (execW_seq_of x12a (execW_cond_t ev1 (execW_seq_of x13a (execW_seq_of x14a (execW_seq_of x15a (execW_cond_t ev2 x16a)))))) (execW_seq_of (execW_seq_of x17a (execW_cond_f ev3 (by rfl))) xta))))))))))))), .inl ⟨rfl, xtb, f25, f24, f1, f5, f23, (by omega), hinv, trivial⟩⟩
        · rw [decide_eq_false qk] at ev1
          have hcd : (if staleS S T.2.1 = true then 8 else 0) = codeOf (ofK S) kind key val rs0 ws0 := by unfold codeOf; rw [if_neg qk, ← hT]; rfl
          obtain ⟨env13, x13a, x13b, x13c, x13d⟩ := r25 cx env12 σ11 _ kind key val ((slV 2 (rs0.map encRd))) ((slV 3 (ws0.map encWr))) x12b hcx f10 g10 slV_plain slV_plain 
          have f1 := (x13d 1 (by decide)).trans f1
          have f5 := (x13d 5 (by decide)).trans f5
          have f6 := (x13d 6 (by decide)).trans f6
          have f7 := (x13d 7 (by decide)).trans f7
          have f10 := (x13d 10 (by decide)).trans f10
          have f12 := (x13d 12 (by decide)).trans f12
          have f13 := (x13d 13 (by decide)).trans f13
          have f23 := (x13d 23 (by decide)).trans f23
          have f24 := (x13d 24 (by decide)).trans f24
          have f25 := (x13d 25 (by decide)).trans f25
          have f85 := (x13d 85 (by decide)).trans f85
          have f105 := x13c
          have ev3 := ev_tmp f105
          by_cases q23 : kind = 2 ∨ kind = 3
          · have e105 : (decide (kind = 2) || decide (kind = 3)) = true := by simpa using q23
            rw [e105] at ev3
            obtain ⟨env14, x14a, x14b, x14c, x14d⟩ := r26 cx env13 σ11 k _ ((if staleS S T.2.1 = true then 8 else 0)) 0 (⟨#[]⟩) 0 kind key val ((slV 2 (rs0.map encRd))) ((slV 3 (ws0.map encWr))) _ key ((ofK S key).1) ((ofK S key).2.1) ((ofK S key).2.2) x13b hcx f12 f13 g12 slV_plain slV_plain (hw0 _) (hhz _) g13 
            have f1 := (x14d 1 (by decide)).trans f1
            have f5 := (x14d 5 (by decide)).trans f5
            have f6 := (x14d 6 (by decide)).trans f6
            have f7 := (x14d 7 (by decide)).trans f7
            have f10 := (x14d 10 (by decide)).trans f10
            have f12 := (x14d 12 (by decide)).trans f12
            have f13 := (x14d 13 (by decide)).trans f13
            have f23 := (x14d 23 (by decide)).trans f23
            have f24 := (x14d 24 (by decide)).trans f24
            have f25 := (x14d 25 (by decide)).trans f25
            have f85 := (x14d 85 (by decide)).trans f85
            have f105 := (x14d 105 (by decide)).trans f105
            have g10 := get_set' (ob' := .cells [.int .i64 ((k : Int).tmod 6), .int .u64 ((k : Int) + 1), .int .i64 kind, .str key, .str val, slV 2 (rs0.map encRd), slV 3 (ws0.map encWr), .int .i64 (10 * (k : Int) + 1), .int .i64 (10 * (k : Int) + 2), .int .i64 (10 * (k : Int) + 3), .int .i64 (if staleS S T.2.1 = true then 8 else 0), .int .i64 ((k : Int).tmod 6), .int .u64 ((k : Int) + 1), .int .i64 0, .int .i64 0, .str ⟨#[]⟩, .int .u64 (wr .u64 ((ofK S key).1 + 1))]) g10 hc0
            have g13 := get_set' (ob' := .cells [.int .i64 ((k : Int).tmod 6), .int .u64 ((k : Int) + 1), .int .i64 kind, .str key, .str val, slV 2 (rs0.map encRd), slV 3 (ws0.map encWr), .int .i64 (10 * (k : Int) + 1), .int .i64 (10 * (k : Int) + 2), .int .i64 (10 * (k : Int) + 3), .int .i64 (if staleS S T.2.1 = true then 8 else 0), .int .i64 ((k : Int).tmod 6), .int .u64 ((k : Int) + 1), .int .i64 0, .int .i64 0, .str ⟨#[]⟩, .int .u64 (wr .u64 ((ofK S key).1 + 1))]) g13 hc1
            have hR := hR.setc (ob := .cells [.int .i64 ((k : Int).tmod 6), .int .u64 ((k : Int) + 1), .int .i64 kind, .str key, .str val, slV 2 (rs0.map encRd), slV 3 (ws0.map encWr), .int .i64 (10 * (k : Int) + 1), .int .i64 (10 * (k : Int) + 2), .int .i64 (10 * (k : Int) + 3), .int .i64 (if staleS S T.2.1 = true then 8 else 0), .int .i64 ((k : Int).tmod 6), .int .u64 ((k : Int) + 1), .int .i64 0, .int .i64 0, .str ⟨#[]⟩, .int .u64 (wr .u64 ((ofK S key).1 + 1))]) g12
            have g12 := get_set_at (ob' := .cells [.int .i64 ((k : Int).tmod 6), .int .u64 ((k : Int) + 1), .int .i64 kind, .str key, .str val, slV 2 (rs0.map encRd), slV 3 (ws0.map encWr), .int .i64 (10 * (k : Int) + 1), .int .i64 (10 * (k : Int) + 2), .int .i64 (10 * (k : Int) + 3), .int .i64 (if staleS S T.2.1 = true then 8 else 0), .int .i64 ((k : Int).tmod 6), .int .u64 ((k : Int) + 1), .int .i64 0, .int .i64 0, .str ⟨#[]⟩, .int .u64 (wr .u64 ((ofK S key).1 + 1))]) g12
            have hh : (σ11.set (.st ib7) (.cells [.int .i64 ((k : Int).tmod 6), .int .u64 ((k : Int) + 1), .int .i64 kind, .str key, .str val, slV 2 (rs0.map encRd), slV 3 (ws0.map encWr), .int .i64 (10 * (k : Int) + 1), .int .i64 (10 * (k : Int) + 2), .int .i64 (10 * (k : Int) + 3), .int .i64 (if staleS S T.2.1 = true then 8 else 0), .int .i64 ((k : Int).tmod 6), .int .u64 ((k : Int) + 1), .int .i64 0, .int .i64 0, .str ⟨#[]⟩, .int .u64 (wr .u64 ((ofK S key).1 + 1))])).hp = hp0 := hh
            generalize σ11.set (.st ib7) (.cells [.int .i64 ((k : Int).tmod 6), .int .u64 ((k : Int) + 1), .int .i64 kind, .str key, .str val, slV 2 (rs0.map encRd), slV 3 (ws0.map encWr), .int .i64 (10 * (k : Int) + 1), .int .i64 (10 * (k : Int) + 2), .int .i64 (10 * (k : Int) + 3), .int .i64 (if staleS S T.2.1 = true then 8 else 0), .int .i64 ((k : Int).tmod 6), .int .u64 ((k : Int) + 1), .int .i64 0, .int .i64 0, .str ⟨#[]⟩, .int .u64 (wr .u64 ((ofK S key).1 + 1))]) = σs14 at x14a g10 g13 hR g12 hh
            obtain ⟨envt, σt, xta, xtb, hinv, hkt⟩ := tail cx hcx hr0 hh0 b k ib7 at_ hat (by omega) kind key val rs0 ws0 hm1 hm2 l H S hL R M env14 σs14 x14b _ _ _ hcd (by unfold rvalOf; rw [if_neg qk]) (by unfold rnumOf; rw [if_neg qk, if_pos q23]) f1 f5 f6 f12 g12 (hR.1 _ (List.mem_singleton_self _)) (by rw [hh]; exact hA) (by rw [hh]; exact hM)
            have f1 := (hkt 1 (by decide)).trans f1
            have f5 := (hkt 5 (by decide)).trans f5
            have f23 := (hkt 23 (by decide)).trans f23
            have f24 := (hkt 24 (by decide)).trans f24
            have f25 := (hkt 25 (by decide)).trans f25
            exact ⟨.normal, envt, _, (execW_block_of (execW_seq_of x1a (execW_seq_of x2a (execW_seq_of x3a (execW_seq_of x4a (execW_seq_of x5a (execW_seq_of x6a (execW_seq_of x7a (execW_seq_of x8a (execW_seq_of x9a (execW_seq_of (execW_seq_of x10a x11a) (execW_seq_of (execW_seq_of x12a (execW_cond_f ev1 (by rfl))) (execW_seq_of (execW_seq_of x13a (execW_cond_t ev3 x14a)) xta))))))))))))), .inl ⟨rfl, xtb, f25, f24, f1, f5, f23, (by omega), hinv, trivial⟩⟩
          · have e105 : (decide (kind = 2) || decide (kind = 3)) = false := by simpa using q23
            rw [e105] at ev3
            obtain ⟨envt, σt, xta, xtb, hinv, hkt⟩ := tail cx hcx hr0 hh0 b k ib7 at_ hat (by omega) kind key val rs0 ws0 hm1 hm2 l H S hL R M env13 σ11 x13b _ _ _ hcd (by unfold rvalOf; rw [if_neg qk]) (by unfold rnumOf; rw [if_neg qk, if_neg q23]) f1 f5 f6 f12 g12 (hR.1 _ (List.mem_singleton_self _)) (by rw [hh]; exact hA) (by rw [hh]; exact hM)
            have f1 := (hkt 1 (by decide)).trans f1
            have f5 := (hkt 5 (by decide)).trans f5
            have f23 := (hkt 23 (by decide)).trans f23
            have f24 := (hkt 24 (by decide)).trans f24
            have f25 := (hkt 25 (by decide)).trans f25
            exact ⟨.normal, envt, _, (execW_block_of (execW_seq_of x1a (execW_seq_of x2a (execW_seq_of x3a (execW_seq_of x4a (execW_seq_of x5a (execW_seq_of x6a (execW_seq_of x7a (execW_seq_of x8a (execW_seq_of x9a (execW_seq_of (execW_seq_of x10a x11a) (execW_seq_of (execW_seq_of x12a (execW_cond_f ev1 (by rfl))) (execW_seq_of (execW_seq_of x13a (execW_cond_f ev3 (by rfl))) xta))))))))))))), .inl ⟨rfl, xtb, f25, f24, f1, f5, f23, (by omega), hinv, trivial⟩⟩
      · cases x11p
      · cases x11p
theorem loop (cx : Cx) (hcx : cx.esc = [22]) (hro : ∀ k, cx.ro = some k → k ≤ cx.h) (σ0 : AS) (b : Nat) (at_ : Int) (es : List AV) (hr0 : cx.ro = none) (hh0 : cx.h = 0) (hat : 0 ≤ at_ ∧ at_ ≤ 65535) (hes : ∀ e ∈ es, isOpM e) (hnn : es.length ≤ 9223372036854775807) {env : Env} {σ : AS} (hl : env.length = 156) (h1 : Env.get env 25 = .int .i64 0) (h2 : Env.get env 24 = .int .i64 ((es.length : Nat) : Int)) (h0 : J cx.h σ0 b at_ es 0 env σ) :
    ∃ e env' σ', execW Try.prog cx [] (callW Try.prog how) (cr [.r, .r, .r, .l, .r]) (env, σ) = some (e, (env', σ')) ∧ ((e = .normal ∧ ((env'.length = 156 ∧ J cx.h σ0 b at_ es (es.length) env' σ') ∨ Ex cx.h σ0 b at_ es (.exit 0) env' σ')) ∨ (e ≠ .normal ∧ e ≠ .exit 0 ∧ Ex cx.h σ0 b at_ es e env' σ')) := by
  rw [loop_eq]
  exact range_std (Ex := Ex cx.h σ0 b at_ es) (N := 156) (tc := 26) (ti := 25) (tl := 24) (tx := 139) (ty1 := 3) (ty2 := 3) (ty3 := 3) (ty4 := 3) ⟨by kernel_rfl, by kernel_rfl, by kernel_rfl⟩ ⟨by kernel_rfl, by kernel_rfl, by kernel_rfl⟩ ⟨by kernel_rfl, by kernel_rfl, by kernel_rfl⟩ (by decide) hnn J_stable (step cx hcx hro σ0 b at_ es hr0 hh0 hat hes) hl h1 h2 h0
end F3
