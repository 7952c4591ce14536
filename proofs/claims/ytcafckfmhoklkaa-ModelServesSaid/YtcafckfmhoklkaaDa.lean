/- The law: whether reads are stale. -/

import Derived.Test.YtcafckfmhoklkaaCz
open Go Go.Abs Go.Proofs
set_option maxRecDepth 100000
set_option maxHeartbeats 4000000
set_option linter.unusedSimpArgs false
set_option linter.unusedVariables false

namespace F3
/-- What holds ahead of round k. -/
def J2 (h : Nat) (σ0 : AS) (b kk c10 c12 c13 : Nat) (at_ : Int) (kind : Int) (key val : ByteArray) (rs0 : List RdI) (ws0 : List WrI) (v : Vl) (es l : List AV) (R TR : AV) (rs : List RdI) (S : List KeyD) (k : Nat) (env : Env) (σ : AS) : Prop :=
  Env.get env 1 = .int .u16 at_ ∧ Env.get env 5 = .ptr (.hp b) 0 ∧ Env.get env 6 = R ∧ Env.get env 7 = .int .i64 (kk : Int) ∧ Env.get env 10 = .ptr (.st c10) 0 ∧ Env.get env 12 = .ptr (.st c12) 0 ∧ Env.get env 13 = .ptr (.st c13) 0 ∧ Env.get env 23 = .sl false 5 es ∧ Env.get env 24 = .int .i64 (es.length : Int) ∧ Env.get env 25 = .int .i64 (kk : Int) ∧ Env.get env 67 = TR ∧ (σ.get (.st c10) = some (.cells [.int .i64 kind, .str key, .str val, slV 2 (rs0.map encRd), slV 3 (ws0.map encWr)])) ∧ (σ.get (.st c12) = some (.cells [.int .i64 ((kk : Int).tmod 6), .int .u64 ((kk : Int) + 1), .int .i64 kind, .str key, .str val, slV 2 (rs0.map encRd), slV 3 (ws0.map encWr), .int .i64 (10 * (kk : Int) + 1), .int .i64 (10 * (kk : Int) + 2), .int .i64 (10 * (kk : Int) + 3), .int .i64 (if staleS S (rs.take k) = true then 8 else 0), .int .i64 ((kk : Int).tmod 6), .int .u64 ((kk : Int) + 1), .int .i64 0, .int .i64 0, .str ⟨#[]⟩, .int .u64 0])) ∧ (σ.get (.st c13) = some (.cells [.str key, .int .u64 v.1, .str v.2.1, .bool v.2.2])) ∧ (Rows 0 σ [(17, R, l)]) ∧ (σ.hp = σ0.hp) ∧ True
def Ex2 (h : Nat) (σ0 : AS) (b kk c10 c12 c13 : Nat) (at_ : Int) (kind : Int) (key val : ByteArray) (rs0 : List RdI) (ws0 : List WrI) (v : Vl) (es l : List AV) (R TR : AV) (rs : List RdI) (S : List KeyD) (e : AExit) (env : Env) (σ : AS) : Prop := False
theorem J2_stable {h : Nat} {σ0 : AS} {b kk c10 c12 c13 : Nat} {at_ : Int} {kind : Int} {key val : ByteArray} {rs0 : List RdI} {ws0 : List WrI} {v : Vl} {es l : List AV} {R TR : AV} {rs : List RdI} {S : List KeyD} : ∀ k env env' σ, env.length = 156 → env'.length = 156 → (∀ i, i ≠ 70 → i ≠ 82 → i ≠ 69 → Env.get env' i = Env.get env i) → J2 h σ0 b kk c10 c12 c13 at_ kind key val rs0 ws0 v es l R TR rs S k env σ → J2 h σ0 b kk c10 c12 c13 at_ kind key val rs0 ws0 v es l R TR rs S k env' σ := by
  rintro k env env' σ _ _ hf ⟨j1, j5, j6, j7, j10, j12, j13, j23, j24, j25, j67, q0, q1, q2, q3, q4, ho⟩
  exact ⟨(hf 1 (by decide) (by decide) (by decide)).trans j1, (hf 5 (by decide) (by decide) (by decide)).trans j5, (hf 6 (by decide) (by decide) (by decide)).trans j6, (hf 7 (by decide) (by decide) (by decide)).trans j7, (hf 10 (by decide) (by decide) (by decide)).trans j10, (hf 12 (by decide) (by decide) (by decide)).trans j12, (hf 13 (by decide) (by decide) (by decide)).trans j13, (hf 23 (by decide) (by decide) (by decide)).trans j23, (hf 24 (by decide) (by decide) (by decide)).trans j24, (hf 25 (by decide) (by decide) (by decide)).trans j25, (hf 67 (by decide) (by decide) (by decide)).trans j67, q0, q1, q2, q3, q4, ho⟩
noncomputable def oT2 : Oper := (opsOf (cr [.r, .r, .r, .l, .r, .i, .i, .r, .r, .l, .i, .r, .r, .r, .r, .r, .r, .r, .r, .r, .l, .r, .i, .i, .l])).headD default
noncomputable def oI2 : List Oper := opsOf (cr [.r, .r, .r, .l, .r, .i, .i, .r, .r, .l, .i, .r, .r, .r, .r, .r, .r, .r, .r, .r, .l, .r, .i, .i, .r, .r, .r])
theorem loop_eq2 : (cr [.r, .r, .r, .l, .r, .i, .i, .r, .r, .l, .i, .r, .r, .r, .r, .r, .r, .r, .r, .r, .l, .r]) = .block 2 (.loop (.seq (.region 15 #[oT2] false) (.seq (.cond (.tmp 70) .skip (.exit 2)) (.seq (.block 3 (.seq (cr [.r, .r, .r, .l, .r, .i, .i, .r, .r, .l, .i, .r, .r, .r, .r, .r, .r, .r, .r, .r, .l, .r, .i, .i, .r, .r, .l, .i, .l]) (.seq (cr [.r, .r, .r, .l, .r, .i, .i, .r, .r, .l, .i, .r, .r, .r, .r, .r, .r, .r, .r, .r, .l, .r, .i, .i, .r, .r, .l, .i, .r, .l]) (.cond (.tmp 80) (cr [.r, .r, .r, .l, .r, .i, .i, .r, .r, .l, .i, .r, .r, .r, .r, .r, .r, .r, .r, .r, .l, .r, .i, .i, .r, .r, .l, .i, .r, .r, .l]) .skip)))) (.region 19 #[oI2.headD default, (oI2.drop 1).headD default] false))))) := by kernel_rfl
theorem step2 (cx : Cx) (hcx : cx.esc = [22]) (hro : ∀ k, cx.ro = some k → k ≤ cx.h) (σ0 : AS) (b kk c10 c12 c13 : Nat) (at_ : Int) (kind : Int) (key val : ByteArray) (rs0 : List RdI) (ws0 : List WrI) (v : Vl) (es l : List AV) (R TR : AV) (rs : List RdI) (S : List KeyD) (hr0 : cx.ro = none) (hh0 : cx.h = 0) (X : AV) (hA : σ0.hp[b]? = some (.cells [X])) (hX : HRow σ0.hp X (S.map encK)) (hlen2 : S.length ≤ 1000) (hS : SlOf 2 TR (rs.map encRd)) (hc0 : c10 ≠ c12) (hc1 : c13 ≠ c12) :
    ∀ k env σ, k < rs.length → env.length = 156 → Env.get env 69 = .int .i64 (k : Int) → Env.get env 68 = .int .i64 ((rs.length : Nat) : Int) → J2 cx.h σ0 b kk c10 c12 c13 at_ kind key val rs0 ws0 v es l R TR rs S k env σ → ∃ e env' σ', execW Try.prog cx [] (callW Try.prog how) (.block 3 (.seq (cr [.r, .r, .r, .l, .r, .i, .i, .r, .r, .l, .i, .r, .r, .r, .r, .r, .r, .r, .r, .r, .l, .r, .i, .i, .r, .r, .l, .i, .l]) (.seq (cr [.r, .r, .r, .l, .r, .i, .i, .r, .r, .l, .i, .r, .r, .r, .r, .r, .r, .r, .r, .r, .l, .r, .i, .i, .r, .r, .l, .i, .r, .l]) (.cond (.tmp 80) (cr [.r, .r, .r, .l, .r, .i, .i, .r, .r, .l, .i, .r, .r, .r, .r, .r, .r, .r, .r, .r, .l, .r, .i, .i, .r, .r, .l, .i, .r, .r, .l]) .skip)))) (env, σ) = some (e, (env', σ')) ∧
      ((e = .normal ∧ env'.length = 156 ∧ Env.get env' 69 = .int .i64 (k : Int) ∧ Env.get env' 68 = .int .i64 ((rs.length : Nat) : Int) ∧ J2 cx.h σ0 b kk c10 c12 c13 at_ kind key val rs0 ws0 v es l R TR rs S (k + 1) env' σ') ∨ (e ≠ .normal ∧ Ex2 cx.h σ0 b kk c10 c12 c13 at_ kind key val rs0 ws0 v es l R TR rs S e env' σ')) := by
  rintro k env σ hk hlen f69 f68 ⟨f1, f5, f6, f7, f10, f12, f13, f23, f24, f25, f67, q0, q1, q2, q3, q4, ho⟩
  have hw0 : ∀ i, wok cx.ro (.st i) = true := fun i => by rw [hr0]; rfl
  have hhz : ∀ i, cx.h ≤ i := fun i => by rw [hh0]; exact Nat.zero_le _
  obtain ⟨p, hia, hpa⟩ := (rd29 (σ := σ) hS).2 k (encRd rs[k]) (get_el hk)
  have q4z := q4
  obtain ⟨env1, x1a, x1b, x1c, x1d⟩ := r16 cx env σ k TR p (rs[k].1) (rs[k].2) hlen hcx f67 f69 hia hpa (hw0 _) (hhz _)
  have f1 := (x1d 1 (by decide)).trans f1
  have f5 := (x1d 5 (by decide)).trans f5
  have f6 := (x1d 6 (by decide)).trans f6
  have f7 := (x1d 7 (by decide)).trans f7
  have f10 := (x1d 10 (by decide)).trans f10
  have f12 := (x1d 12 (by decide)).trans f12
  have f13 := (x1d 13 (by decide)).trans f13
  have f23 := (x1d 23 (by decide)).trans f23
  have f24 := (x1d 24 (by decide)).trans f24
  have f25 := (x1d 25 (by decide)).trans f25
  have f67 := (x1d 67 (by decide)).trans f67
  have f68 := (x1d 68 (by decide)).trans f68
  have f69 := (x1d 69 (by decide)).trans f69
  have f16 := x1c
  have g1 : ((σ : AS).push false (.cells [.str rs[k].1, .int .u64 rs[k].2])).get (.st (σ : AS).st.length) = some (.cells [.str rs[k].1, .int .u64 rs[k].2]) := AS.get_push_at rfl
  have q0 := get_push' (ob' := .cells [.str rs[k].1, .int .u64 rs[k].2]) q0
  have q1 := get_push' (ob' := .cells [.str rs[k].1, .int .u64 rs[k].2]) q1
  have q2 := get_push' (ob' := .cells [.str rs[k].1, .int .u64 rs[k].2]) q2
  have q3 := q3.push (ob := .cells [.str rs[k].1, .int .u64 rs[k].2])
  generalize hib1 : (σ : AS).st.length = ib1 at g1 f16
  have hpn1 : ((σ : AS).push false (.cells [.str rs[k].1, .int .u64 rs[k].2])).hp = (σ : AS).hp := rfl
  generalize (σ : AS).push false (.cells [.str rs[k].1, .int .u64 rs[k].2]) = σ1 at x1a g1 q0 q1 q2 q3 hpn1
  have q4 : σ1.hp = σ0.hp := hpn1.trans q4
  have h7 := F7.ok σ1.hp σ1.st (some σ1.st.length) b rs[k].1 X S (fun j hj => by cases hj; exact Nat.le_refl _) (by rw [q4]; exact hA) (by rw [q4]; exact hX) hlen2
  obtain ⟨env2, x2a, x2b, x2c, x2d⟩ := r17 cx env1 σ1 b _ (rs[k].1) (rs[k].2) (rs[k].1) ((ofK S rs[k].1).1) ((ofK S rs[k].1).2.1) ((ofK S rs[k].1).2.2) x1b hcx f5 f16 g1 h7 
  have f1 := (x2d 1 (by decide)).trans f1
  have f5 := (x2d 5 (by decide)).trans f5
  have f6 := (x2d 6 (by decide)).trans f6
  have f7 := (x2d 7 (by decide)).trans f7
  have f10 := (x2d 10 (by decide)).trans f10
  have f12 := (x2d 12 (by decide)).trans f12
  have f13 := (x2d 13 (by decide)).trans f13
  have f16 := (x2d 16 (by decide)).trans f16
  have f23 := (x2d 23 (by decide)).trans f23
  have f24 := (x2d 24 (by decide)).trans f24
  have f25 := (x2d 25 (by decide)).trans f25
  have f67 := (x2d 67 (by decide)).trans f67
  have f68 := (x2d 68 (by decide)).trans f68
  have f69 := (x2d 69 (by decide)).trans f69
  have f80 := x2c
  have ev1 := ev_tmp f80
  have hss := stale_succ (S := S) hk
  cases q : decide ((ofK S rs[k].1).1 ≠ rs[k].2) with
  | true =>
    rw [q] at ev1 hss
    obtain ⟨env3, x3a, x3b, x3c, x3d⟩ := r18 cx env2 σ1 kk c12 ((if staleS S (rs.take k) = true then 8 else 0)) 0 (⟨#[]⟩) 0 kind key val ((slV 2 (rs0.map encRd))) ((slV 3 (ws0.map encWr))) x2b hcx f12 q1 slV_plain slV_plain (hw0 _) (hhz _) 
    have f1 := (x3d 1 (by decide)).trans f1
    have f5 := (x3d 5 (by decide)).trans f5
    have f6 := (x3d 6 (by decide)).trans f6
    have f7 := (x3d 7 (by decide)).trans f7
    have f10 := (x3d 10 (by decide)).trans f10
    have f12 := (x3d 12 (by decide)).trans f12
    have f13 := (x3d 13 (by decide)).trans f13
    have f16 := (x3d 16 (by decide)).trans f16
    have f23 := (x3d 23 (by decide)).trans f23
    have f24 := (x3d 24 (by decide)).trans f24
    have f25 := (x3d 25 (by decide)).trans f25
    have f67 := (x3d 67 (by decide)).trans f67
    have f68 := (x3d 68 (by decide)).trans f68
    have f69 := (x3d 69 (by decide)).trans f69
    have f80 := (x3d 80 (by decide)).trans f80
    have q0 := get_set' (ob' := .cells [.int .i64 ((kk : Int).tmod 6), .int .u64 ((kk : Int) + 1), .int .i64 kind, .str key, .str val, slV 2 (rs0.map encRd), slV 3 (ws0.map encWr), .int .i64 (10 * (kk : Int) + 1), .int .i64 (10 * (kk : Int) + 2), .int .i64 (10 * (kk : Int) + 3), .int .i64 8, .int .i64 ((kk : Int).tmod 6), .int .u64 ((kk : Int) + 1), .int .i64 0, .int .i64 0, .str ⟨#[]⟩, .int .u64 0]) q0 hc0
    have q2 := get_set' (ob' := .cells [.int .i64 ((kk : Int).tmod 6), .int .u64 ((kk : Int) + 1), .int .i64 kind, .str key, .str val, slV 2 (rs0.map encRd), slV 3 (ws0.map encWr), .int .i64 (10 * (kk : Int) + 1), .int .i64 (10 * (kk : Int) + 2), .int .i64 (10 * (kk : Int) + 3), .int .i64 8, .int .i64 ((kk : Int).tmod 6), .int .u64 ((kk : Int) + 1), .int .i64 0, .int .i64 0, .str ⟨#[]⟩, .int .u64 0]) q2 hc1
    have q1n0 := get_set_at (ob' := .cells [.int .i64 ((kk : Int).tmod 6), .int .u64 ((kk : Int) + 1), .int .i64 kind, .str key, .str val, slV 2 (rs0.map encRd), slV 3 (ws0.map encWr), .int .i64 (10 * (kk : Int) + 1), .int .i64 (10 * (kk : Int) + 2), .int .i64 (10 * (kk : Int) + 3), .int .i64 8, .int .i64 ((kk : Int).tmod 6), .int .u64 ((kk : Int) + 1), .int .i64 0, .int .i64 0, .str ⟨#[]⟩, .int .u64 0]) q1
    have q3 := q3.setc (ob := .cells [.int .i64 ((kk : Int).tmod 6), .int .u64 ((kk : Int) + 1), .int .i64 kind, .str key, .str val, slV 2 (rs0.map encRd), slV 3 (ws0.map encWr), .int .i64 (10 * (kk : Int) + 1), .int .i64 (10 * (kk : Int) + 2), .int .i64 (10 * (kk : Int) + 3), .int .i64 8, .int .i64 ((kk : Int).tmod 6), .int .u64 ((kk : Int) + 1), .int .i64 0, .int .i64 0, .str ⟨#[]⟩, .int .u64 0]) q1
    have e8 : ((if staleS S (rs.take (k + 1)) = true then 8 else 0) : Int) = 8 := by rw [hss, Bool.or_true, if_pos rfl]
    have q1n : (σ1.set (.st c12) (.cells [.int .i64 ((kk : Int).tmod 6), .int .u64 ((kk : Int) + 1), .int .i64 kind, .str key, .str val, slV 2 (rs0.map encRd), slV 3 (ws0.map encWr), .int .i64 (10 * (kk : Int) + 1), .int .i64 (10 * (kk : Int) + 2), .int .i64 (10 * (kk : Int) + 3), .int .i64 8, .int .i64 ((kk : Int).tmod 6), .int .u64 ((kk : Int) + 1), .int .i64 0, .int .i64 0, .str ⟨#[]⟩, .int .u64 0])).get (.st c12) = some (.cells [.int .i64 ((kk : Int).tmod 6), .int .u64 ((kk : Int) + 1), .int .i64 kind, .str key, .str val, slV 2 (rs0.map encRd), slV 3 (ws0.map encWr), .int .i64 (10 * (kk : Int) + 1), .int .i64 (10 * (kk : Int) + 2), .int .i64 (10 * (kk : Int) + 3), .int .i64 (if staleS S (rs.take (k + 1)) = true then 8 else 0), .int .i64 ((kk : Int).tmod 6), .int .u64 ((kk : Int) + 1), .int .i64 0, .int .i64 0, .str ⟨#[]⟩, .int .u64 0]) := by rw [e8]; exact q1n0
    exact ⟨.normal, env3, _, (execW_block_of (execW_seq_of x1a (execW_seq_of x2a (execW_cond_t ev1 x3a)))), .inl ⟨rfl, x3b, f69, f68, f1, f5, f6, f7, f10, f12, f13, f23, f24, f25, f67, q0, q1n, q2, q3, q4, trivial⟩⟩
  | false =>
    rw [q] at ev1 hss
    rw [Bool.or_false] at hss
    rw [← hss] at q1
    exact ⟨.normal, env2, _, (execW_block_of (execW_seq_of x1a (execW_seq_of x2a (execW_cond_f ev1 (by rfl))))), .inl ⟨rfl, x2b, f69, f68, f1, f5, f6, f7, f10, f12, f13, f23, f24, f25, f67, q0, q1, q2, q3, q4, trivial⟩⟩
theorem loop2 (cx : Cx) (hcx : cx.esc = [22]) (hro : ∀ k, cx.ro = some k → k ≤ cx.h) (σ0 : AS) (b kk c10 c12 c13 : Nat) (at_ : Int) (kind : Int) (key val : ByteArray) (rs0 : List RdI) (ws0 : List WrI) (v : Vl) (es l : List AV) (R TR : AV) (rs : List RdI) (S : List KeyD) (hr0 : cx.ro = none) (hh0 : cx.h = 0) (X : AV) (hA : σ0.hp[b]? = some (.cells [X])) (hX : HRow σ0.hp X (S.map encK)) (hlen2 : S.length ≤ 1000) (hS : SlOf 2 TR (rs.map encRd)) (hc0 : c10 ≠ c12) (hc1 : c13 ≠ c12) (hnn : rs.length ≤ 9223372036854775807) {env : Env} {σ : AS} (hl : env.length = 156) (h1 : Env.get env 69 = .int .i64 0) (h2 : Env.get env 68 = .int .i64 ((rs.length : Nat) : Int)) (h0 : J2 cx.h σ0 b kk c10 c12 c13 at_ kind key val rs0 ws0 v es l R TR rs S 0 env σ) :
    ∃ e env' σ', execW Try.prog cx [] (callW Try.prog how) (cr [.r, .r, .r, .l, .r, .i, .i, .r, .r, .l, .i, .r, .r, .r, .r, .r, .r, .r, .r, .r, .l, .r]) (env, σ) = some (e, (env', σ')) ∧ ((e = .normal ∧ ((env'.length = 156 ∧ J2 cx.h σ0 b kk c10 c12 c13 at_ kind key val rs0 ws0 v es l R TR rs S (rs.length) env' σ') ∨ Ex2 cx.h σ0 b kk c10 c12 c13 at_ kind key val rs0 ws0 v es l R TR rs S (.exit 2) env' σ')) ∨ (e ≠ .normal ∧ e ≠ .exit 2 ∧ Ex2 cx.h σ0 b kk c10 c12 c13 at_ kind key val rs0 ws0 v es l R TR rs S e env' σ')) := by
  rw [loop_eq2]
  exact range_std (Ex := Ex2 cx.h σ0 b kk c10 c12 c13 at_ kind key val rs0 ws0 v es l R TR rs S) (N := 156) (tc := 70) (ti := 69) (tl := 68) (tx := 82) (ty1 := 3) (ty2 := 3) (ty3 := 3) (ty4 := 3) ⟨by kernel_rfl, by kernel_rfl, by kernel_rfl⟩ ⟨by kernel_rfl, by kernel_rfl, by kernel_rfl⟩ ⟨by kernel_rfl, by kernel_rfl, by kernel_rfl⟩ (by decide) hnn J2_stable (step2 cx hcx hro σ0 b kk c10 c12 c13 at_ kind key val rs0 ws0 v es l R TR rs S hr0 hh0 X hA hX hlen2 hS hc0 hc1) hl h1 h2 h0
end F3
