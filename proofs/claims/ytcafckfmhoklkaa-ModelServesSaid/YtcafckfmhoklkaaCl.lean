/- What the document's Do does. -/

import Derived.Test.YtcafckfmhoklkaaCk
open Go Go.Abs Go.Proofs
set_option maxRecDepth 100000
set_option maxHeartbeats 4000000
set_option linter.unusedSimpArgs false
set_option linter.unusedVariables false

theorem SetR.refl {hp : List AObj} {b : Nat} {M : AV} {S : List KeyD} (hA : hp[b]? = some (.cells [M])) (hM : HRow hp M (S.map encK)) : SetR hp hp b S := ⟨Nat.le_refl _, fun _ _ _ => rfl, M, hA, hM⟩
namespace F9
theorem ok (hp s : List AObj) (b : Nat) (x : RowD) (M : AV) (S : List KeyD) (hA : hp[b]? = some (.cells [M])) (hM : HRow hp M (S.map encK)) (hlen2 : S.length ≤ 200) (hn1 : x.rs.length ≤ 10) (hn2 : x.ws.length ≤ 10) :
    ∃ v hp', callW Try.prog how 9 [.ptr (.hp b) 0, .agg (rowC x)] ⟨hp, s⟩ none = some (.bool v, ⟨hp', s⟩) ∧ SetR hp hp' b (doK S x) := by
  let cx : Cx := { h := s.length, ro := none, esc := [] }
  have hcx : cx.esc = [] := rfl
  have hro : ∀ k, cx.ro = some k → k ≤ cx.h := fun k hk => by cases hk
  obtain ⟨env, henv⟩ : ∃ e, e = frameA Try.f9 [.ptr (.hp b) 0, .agg (rowC x)] := ⟨_, rfl⟩
  have hlen : env.length = 155 := by rw [henv]; rfl
  have f0 : Env.get env 0 = .ptr (.hp b) 0 := by rw [henv]; rfl
  have f1 : Env.get env 1 = .agg (rowC x) := by rw [henv]; rfl
  have ho : Outside s.length (AS.mk hp s) (AS.mk hp s) := Outside.refl (Nat.le_refl _)
  obtain ⟨env1, x1a, x1b, x1c, x1d⟩ := rA cx env (AS.mk hp s) hp s x ((slV 2 (x.rs.map encRd))) ((slV 3 (x.ws.map encWr))) hlen hcx f1 rfl slV_plain slV_plain rfl (Nat.le_refl _) 
  have f0 := (x1d 0 (by decide)).trans f0
  have f1 := (x1d 1 (by decide)).trans f1
  have f3 := x1c.1
  have f4 := x1c.2
  have ga : (AS.mk hp (s ++ [AObj.cells [.int .i64 x.cl, .int .u64 x.sq, .int .i64 x.kind, .str x.key, .str x.val, slV 2 (x.rs.map encRd), slV 3 (x.ws.map encWr), .int .i64 x.ca, .int .i64 x.st, .int .i64 x.an, .int .i64 x.code, .int .i64 x.rcl, .int .u64 x.rsq, .int .i64 x.rn, .int .i64 x.rcode, .str x.rval, .int .u64 x.rnum]])).get (.st s.length) = some (.cells [.int .i64 x.cl, .int .u64 x.sq, .int .i64 x.kind, .str x.key, .str x.val, slV 2 (x.rs.map encRd), slV 3 (x.ws.map encWr), .int .i64 x.ca, .int .i64 x.st, .int .i64 x.an, .int .i64 x.code, .int .i64 x.rcl, .int .u64 x.rsq, .int .i64 x.rn, .int .i64 x.rcode, .str x.rval, .int .u64 x.rnum]) := by simp [AS.get]
  have ho : Outside s.length (AS.mk hp s) (AS.mk hp (s ++ [AObj.cells [.int .i64 x.cl, .int .u64 x.sq, .int .i64 x.kind, .str x.key, .str x.val, slV 2 (x.rs.map encRd), slV 3 (x.ws.map encWr), .int .i64 x.ca, .int .i64 x.st, .int .i64 x.an, .int .i64 x.code, .int .i64 x.rcl, .int .u64 x.rsq, .int .i64 x.rn, .int .i64 x.rcode, .str x.rval, .int .u64 x.rnum]])) := ⟨rfl, by simp, by simp⟩
  have hw0 : ∀ i, s.length ≤ i → wok cx.ro (.st i) = true := fun _ _ => rfl
  obtain ⟨env2, x2a, x2b, x2c, x2d⟩ := rB cx env1 (AS.mk hp (s ++ [AObj.cells [.int .i64 x.cl, .int .u64 x.sq, .int .i64 x.kind, .str x.key, .str x.val, slV 2 (x.rs.map encRd), slV 3 (x.ws.map encWr), .int .i64 x.ca, .int .i64 x.st, .int .i64 x.an, .int .i64 x.code, .int .i64 x.rcl, .int .u64 x.rsq, .int .i64 x.rn, .int .i64 x.rcode, .str x.rval, .int .u64 x.rnum]])) s.length x _ _ x1b hcx f3 ga slV_plain slV_plain (wokst hro ho.2.2) ho.2.2
  have f0 := (x2d 0 (by decide)).trans f0
  have f1 := (x2d 1 (by decide)).trans f1
  have f3 := (x2d 3 (by decide)).trans f3
  have f4 := (x2d 4 (by decide)).trans f4
  have f5 := x2c
  have g2 : ((AS.mk hp (s ++ [AObj.cells [.int .i64 x.cl, .int .u64 x.sq, .int .i64 x.kind, .str x.key, .str x.val, slV 2 (x.rs.map encRd), slV 3 (x.ws.map encWr), .int .i64 x.ca, .int .i64 x.st, .int .i64 x.an, .int .i64 x.code, .int .i64 x.rcl, .int .u64 x.rsq, .int .i64 x.rn, .int .i64 x.rcode, .str x.rval, .int .u64 x.rnum]]) : AS).push false (.cells [.int .i64 x.rcl, .int .u64 x.rsq, .int .i64 x.rn, .int .i64 x.rcode, .str x.rval, .int .u64 x.rnum])).get (.st (AS.mk hp (s ++ [AObj.cells [.int .i64 x.cl, .int .u64 x.sq, .int .i64 x.kind, .str x.key, .str x.val, slV 2 (x.rs.map encRd), slV 3 (x.ws.map encWr), .int .i64 x.ca, .int .i64 x.st, .int .i64 x.an, .int .i64 x.code, .int .i64 x.rcl, .int .u64 x.rsq, .int .i64 x.rn, .int .i64 x.rcode, .str x.rval, .int .u64 x.rnum]]) : AS).st.length) = some (.cells [.int .i64 x.rcl, .int .u64 x.rsq, .int .i64 x.rn, .int .i64 x.rcode, .str x.rval, .int .u64 x.rnum]) := AS.get_push_at rfl
  have ga := get_push' (ob' := .cells [.int .i64 x.rcl, .int .u64 x.rsq, .int .i64 x.rn, .int .i64 x.rcode, .str x.rval, .int .u64 x.rnum]) ga
  have ho := ho.push (ob := .cells [.int .i64 x.rcl, .int .u64 x.rsq, .int .i64 x.rn, .int .i64 x.rcode, .str x.rval, .int .u64 x.rnum])
  generalize hib2 : (AS.mk hp (s ++ [AObj.cells [.int .i64 x.cl, .int .u64 x.sq, .int .i64 x.kind, .str x.key, .str x.val, slV 2 (x.rs.map encRd), slV 3 (x.ws.map encWr), .int .i64 x.ca, .int .i64 x.st, .int .i64 x.an, .int .i64 x.code, .int .i64 x.rcl, .int .u64 x.rsq, .int .i64 x.rn, .int .i64 x.rcode, .str x.rval, .int .u64 x.rnum]]) : AS).st.length = ib2 at g2 f5
  generalize (AS.mk hp (s ++ [AObj.cells [.int .i64 x.cl, .int .u64 x.sq, .int .i64 x.kind, .str x.key, .str x.val, slV 2 (x.rs.map encRd), slV 3 (x.ws.map encWr), .int .i64 x.ca, .int .i64 x.st, .int .i64 x.an, .int .i64 x.code, .int .i64 x.rcl, .int .u64 x.rsq, .int .i64 x.rn, .int .i64 x.rcode, .str x.rval, .int .u64 x.rnum]]) : AS).push false (.cells [.int .i64 x.rcl, .int .u64 x.rsq, .int .i64 x.rn, .int .i64 x.rcode, .str x.rval, .int .u64 x.rnum]) = σ2 at x2a g2 ga ho
  obtain ⟨env3, x3a, x3b, x3c, x3d⟩ := rC cx env2 σ2 s.length x _ _ x2b hcx f3 ga slV_plain slV_plain 
  have f0 := (x3d 0 (by decide)).trans f0
  have f1 := (x3d 1 (by decide)).trans f1
  have f3 := (x3d 3 (by decide)).trans f3
  have f4 := (x3d 4 (by decide)).trans f4
  have f5 := (x3d 5 (by decide)).trans f5
  have f6 := x3c
  obtain ⟨env4, x4a, x4b, x4c, x4d⟩ := rD cx env3 σ2 s.length x _ _ x3b hcx f3 ga slV_plain slV_plain 
  have f0 := (x4d 0 (by decide)).trans f0
  have f1 := (x4d 1 (by decide)).trans f1
  have f3 := (x4d 3 (by decide)).trans f3
  have f4 := (x4d 4 (by decide)).trans f4
  have f5 := (x4d 5 (by decide)).trans f5
  have f6 := (x4d 6 (by decide)).trans f6
  have f26 := x4c
  have ev1 := ev_tmp f26
  by_cases qk : x.kind = 1
  · rw [decide_eq_true qk] at ev1
    have hdo : doK S x = S := by unfold doK; rw [if_pos qk]
    rw [hdo]
    have hhp : σ2.hp = hp := ho.1
    have h7 := F7.ok σ2.hp σ2.st none b x.key M S (fun k hk => by cases hk) (by rw [hhp]; exact hA) (by rw [hhp]; exact hM) (by omega)
    obtain ⟨env5, x5a, x5b, x5c, x5d⟩ := rK cx env4 σ2 s.length b x _ _ x.key ((ofK S x.key).1) ((ofK S x.key).2.1) ((ofK S x.key).2.2) x4b hcx f0 f3 ga slV_plain slV_plain h7 (wokst hro ho.2.2) ho.2.2
    have f0 := (x5d 0 (by decide)).trans f0
    have f1 := (x5d 1 (by decide)).trans f1
    have f3 := (x5d 3 (by decide)).trans f3
    have f4 := (x5d 4 (by decide)).trans f4
    have f5 := (x5d 5 (by decide)).trans f5
    have f6 := (x5d 6 (by decide)).trans f6
    have f26 := (x5d 26 (by decide)).trans f26
    have f7 := x5c
    have g5 : ((σ2 : AS).push false (.cells [.str x.key, .int .u64 (ofK S x.key).1, .str (ofK S x.key).2.1, .bool (ofK S x.key).2.2])).get (.st (σ2 : AS).st.length) = some (.cells [.str x.key, .int .u64 (ofK S x.key).1, .str (ofK S x.key).2.1, .bool (ofK S x.key).2.2]) := AS.get_push_at rfl
    have ga := get_push' (ob' := .cells [.str x.key, .int .u64 (ofK S x.key).1, .str (ofK S x.key).2.1, .bool (ofK S x.key).2.2]) ga
    have g2 := get_push' (ob' := .cells [.str x.key, .int .u64 (ofK S x.key).1, .str (ofK S x.key).2.1, .bool (ofK S x.key).2.2]) g2
    have ho := ho.push (ob := .cells [.str x.key, .int .u64 (ofK S x.key).1, .str (ofK S x.key).2.1, .bool (ofK S x.key).2.2])
    generalize hib5 : (σ2 : AS).st.length = ib5 at g5 f7
    generalize (σ2 : AS).push false (.cells [.str x.key, .int .u64 (ofK S x.key).1, .str (ofK S x.key).2.1, .bool (ofK S x.key).2.2]) = σ5 at x5a g5 ga g2 ho
    obtain ⟨env6, x6a, x6b, x6c, x6d⟩ := rK6 cx env5 σ5  x5b hcx   
    have f0 := (x6d 0 (by decide)).trans f0
    have f1 := (x6d 1 (by decide)).trans f1
    have f3 := (x6d 3 (by decide)).trans f3
    have f4 := (x6d 4 (by decide)).trans f4
    have f5 := (x6d 5 (by decide)).trans f5
    have f6 := (x6d 6 (by decide)).trans f6
    have f7 := (x6d 7 (by decide)).trans f7
    have f26 := (x6d 26 (by decide)).trans f26
    have f8 := x6c
    obtain ⟨env7, x7a, x7b, x7c, x7d⟩ := rKh cx env6 σ5 _ x.key ((ofK S x.key).1) ((ofK S x.key).2.1) ((ofK S x.key).2.2) x6b hcx f7 g5 
    have f0 := (x7d 0 (by decide)).trans f0
    have f1 := (x7d 1 (by decide)).trans f1
    have f3 := (x7d 3 (by decide)).trans f3
    have f4 := (x7d 4 (by decide)).trans f4
    have f5 := (x7d 5 (by decide)).trans f5
    have f6 := (x7d 6 (by decide)).trans f6
    have f7 := (x7d 7 (by decide)).trans f7
    have f8 := (x7d 8 (by decide)).trans f8
    have f26 := (x7d 26 (by decide)).trans f26
    have f33 := x7c
    have ev2 := ev_tmp f33
    cases hh0 : (ofK S x.key).2.2 with
    | true =>
        rw [hh0] at ev2
        obtain ⟨env8, x8a, x8b, x8c, x8d⟩ := rK0 cx env7 σ5  x7b hcx   
        have f0 := (x8d 0 (by decide)).trans f0
        have f1 := (x8d 1 (by decide)).trans f1
        have f3 := (x8d 3 (by decide)).trans f3
        have f4 := (x8d 4 (by decide)).trans f4
        have f5 := (x8d 5 (by decide)).trans f5
        have f6 := (x8d 6 (by decide)).trans f6
        have f7 := (x8d 7 (by decide)).trans f7
        have f26 := (x8d 26 (by decide)).trans f26
        have f33 := (x8d 33 (by decide)).trans f33
        have f8 := x8c
        obtain ⟨env9, x9a, x9b, x9c, x9d⟩ := rKc cx env8 σ5 _ _ _ 0 x x.key ((ofK S x.key).1) ((ofK S x.key).2.1) ((ofK S x.key).2.2) x8b hcx f5 f6 f7 f8 g5 g2 
        have f0 := (x9d 0 (by decide)).trans f0
        have f1 := (x9d 1 (by decide)).trans f1
        have f3 := (x9d 3 (by decide)).trans f3
        have f4 := (x9d 4 (by decide)).trans f4
        have f5 := (x9d 5 (by decide)).trans f5
        have f6 := (x9d 6 (by decide)).trans f6
        have f7 := (x9d 7 (by decide)).trans f7
        have f8 := (x9d 8 (by decide)).trans f8
        have f26 := (x9d 26 (by decide)).trans f26
        have f33 := (x9d 33 (by decide)).trans f33
        have f54 := x9c
        generalize hb54 : (decide (x.an ≠ 0) && _) = b54 at f54
        have ev3 := ev_tmp f54
        cases b54 with
        | true =>
            obtain ⟨env10, x10a, x10b, x10c, x10d⟩ := rKr cx env9 σ5  x9b hcx   
            have f0 := (x10d 0 (by decide)).trans f0
            have f1 := (x10d 1 (by decide)).trans f1
            have f3 := (x10d 3 (by decide)).trans f3
            have f5 := (x10d 5 (by decide)).trans f5
            have f6 := (x10d 6 (by decide)).trans f6
            have f7 := (x10d 7 (by decide)).trans f7
            have f8 := (x10d 8 (by decide)).trans f8
            have f26 := (x10d 26 (by decide)).trans f26
            have f33 := (x10d 33 (by decide)).trans f33
            have f54 := (x10d 54 (by decide)).trans f54
            have f4 := x10c
            exact ⟨false, hp, call_of (fl := {}) (fn := Try.f9) (c := bodyC) (env := env) (e := (.ret, (env10, σ5))) rfl Try.func9 body henv (by unfold bodyC; exact (execW_seq_of x1a (execW_seq_of x2a (execW_seq_of x3a (execW_seq_ret (execW_seq_of x4a (execW_cond_t ev1 (execW_seq_of x5a (execW_seq_of x6a (execW_seq_of (execW_seq_of x7a (execW_cond_t ev2 x8a)) (execW_seq_ret (execW_seq_of x9a (execW_cond_t ev3 x10a))))))))))))) ((fin_tmp (k := 4) (.inl rfl) rfl rfl f4 (by simp [AV.back]) (by simp [AV.inb])).trans (congrArg (fun x => some (_, x)) (outside_st ho))), SetR.refl hA hM⟩
        | false =>
            obtain ⟨env10, x10a, x10b, x10c, x10d⟩ := rKe cx env9 σ5 s.length 0 x _ _ x9b hcx f3 f8 ga slV_plain slV_plain 
            have f0 := (x10d 0 (by decide)).trans f0
            have f1 := (x10d 1 (by decide)).trans f1
            have f3 := (x10d 3 (by decide)).trans f3
            have f5 := (x10d 5 (by decide)).trans f5
            have f6 := (x10d 6 (by decide)).trans f6
            have f7 := (x10d 7 (by decide)).trans f7
            have f8 := (x10d 8 (by decide)).trans f8
            have f26 := (x10d 26 (by decide)).trans f26
            have f33 := (x10d 33 (by decide)).trans f33
            have f54 := (x10d 54 (by decide)).trans f54
            have f4 := x10c
            exact ⟨decide (x.code = 0), hp, call_of (fl := {}) (fn := Try.f9) (c := bodyC) (env := env) (e := (.ret, (env10, σ5))) rfl Try.func9 body henv (by unfold bodyC; exact (execW_seq_of x1a (execW_seq_of x2a (execW_seq_of x3a (execW_seq_ret (execW_seq_of x4a (execW_cond_t ev1 (execW_seq_of x5a (execW_seq_of x6a (execW_seq_of (execW_seq_of x7a (execW_cond_t ev2 x8a)) (execW_seq_of (execW_seq_of x9a (execW_cond_f ev3 (by rfl))) (execW_seq_of x10a (by rfl))))))))))))) ((fin_tmp (k := 4) (.inl rfl) rfl rfl f4 (by simp [AV.back]) (by simp [AV.inb])).trans (congrArg (fun x => some (_, x)) (outside_st ho))), SetR.refl hA hM⟩
    | false =>
        rw [hh0] at ev2
        obtain ⟨env8, x8a, x8b, x8c, x8d⟩ := rKc cx env7 σ5 _ _ _ 6 x x.key ((ofK S x.key).1) ((ofK S x.key).2.1) ((ofK S x.key).2.2) x7b hcx f5 f6 f7 f8 g5 g2 
        have f0 := (x8d 0 (by decide)).trans f0
        have f1 := (x8d 1 (by decide)).trans f1
        have f3 := (x8d 3 (by decide)).trans f3
        have f4 := (x8d 4 (by decide)).trans f4
        have f5 := (x8d 5 (by decide)).trans f5
        have f6 := (x8d 6 (by decide)).trans f6
        have f7 := (x8d 7 (by decide)).trans f7
        have f8 := (x8d 8 (by decide)).trans f8
        have f26 := (x8d 26 (by decide)).trans f26
        have f33 := (x8d 33 (by decide)).trans f33
        have f54 := x8c
        generalize hb54 : (decide (x.an ≠ 0) && _) = b54 at f54
        have ev3 := ev_tmp f54
        cases b54 with
        | true =>
            obtain ⟨env9, x9a, x9b, x9c, x9d⟩ := rKr cx env8 σ5  x8b hcx   
            have f0 := (x9d 0 (by decide)).trans f0
            have f1 := (x9d 1 (by decide)).trans f1
            have f3 := (x9d 3 (by decide)).trans f3
            have f5 := (x9d 5 (by decide)).trans f5
            have f6 := (x9d 6 (by decide)).trans f6
            have f7 := (x9d 7 (by decide)).trans f7
            have f8 := (x9d 8 (by decide)).trans f8
            have f26 := (x9d 26 (by decide)).trans f26
            have f33 := (x9d 33 (by decide)).trans f33
            have f54 := (x9d 54 (by decide)).trans f54
            have f4 := x9c
            exact ⟨false, hp, call_of (fl := {}) (fn := Try.f9) (c := bodyC) (env := env) (e := (.ret, (env9, σ5))) rfl Try.func9 body henv (by unfold bodyC; exact (execW_seq_of x1a (execW_seq_of x2a (execW_seq_of x3a (execW_seq_ret (execW_seq_of x4a (execW_cond_t ev1 (execW_seq_of x5a (execW_seq_of x6a (execW_seq_of (execW_seq_of x7a (execW_cond_f ev2 (by rfl))) (execW_seq_ret (execW_seq_of x8a (execW_cond_t ev3 x9a))))))))))))) ((fin_tmp (k := 4) (.inl rfl) rfl rfl f4 (by simp [AV.back]) (by simp [AV.inb])).trans (congrArg (fun x => some (_, x)) (outside_st ho))), SetR.refl hA hM⟩
        | false =>
            obtain ⟨env9, x9a, x9b, x9c, x9d⟩ := rKe cx env8 σ5 s.length 6 x _ _ x8b hcx f3 f8 ga slV_plain slV_plain 
            have f0 := (x9d 0 (by decide)).trans f0
            have f1 := (x9d 1 (by decide)).trans f1
            have f3 := (x9d 3 (by decide)).trans f3
            have f5 := (x9d 5 (by decide)).trans f5
            have f6 := (x9d 6 (by decide)).trans f6
            have f7 := (x9d 7 (by decide)).trans f7
            have f8 := (x9d 8 (by decide)).trans f8
            have f26 := (x9d 26 (by decide)).trans f26
            have f33 := (x9d 33 (by decide)).trans f33
            have f54 := (x9d 54 (by decide)).trans f54
            have f4 := x9c
            exact ⟨decide (x.code = 6), hp, call_of (fl := {}) (fn := Try.f9) (c := bodyC) (env := env) (e := (.ret, (env9, σ5))) rfl Try.func9 body henv (by unfold bodyC; exact (execW_seq_of x1a (execW_seq_of x2a (execW_seq_of x3a (execW_seq_ret (execW_seq_of x4a (execW_cond_t ev1 (execW_seq_of x5a (execW_seq_of x6a (execW_seq_of (execW_seq_of x7a (execW_cond_f ev2 (by rfl))) (execW_seq_of (execW_seq_of x8a (execW_cond_f ev3 (by rfl))) (execW_seq_of x9a (by rfl))))))))))))) ((fin_tmp (k := 4) (.inl rfl) rfl rfl f4 (by simp [AV.back]) (by simp [AV.inb])).trans (congrArg (fun x => some (_, x)) (outside_st ho))), SetR.refl hA hM⟩
  · rw [decide_eq_false qk] at ev1
    have hhp : σ2.hp = hp := ho.1
    obtain ⟨tc, ts, X, Y, h8, hX, hY⟩ := f8_ok σ2.hp σ2.st none x.kind x.cl x.sq x.key x.val _ _ x.rs x.ws (fun k hk => by cases hk) slOf_slV slOf_slV
    have htl := txnP_len (kind := x.kind) (key := x.key) (val := x.val) (rs := x.rs) (ws := x.ws) (m := 10) (by omega) hn1 hn2
    have hdo : doK S x = if x.code = 0 then putsK S (txnP x.kind x.key x.val x.rs x.ws).2.2 else S := by unfold doK rowTxn; rw [if_neg qk]
    rw [hdo]
    generalize txnP x.kind x.key x.val x.rs x.ws = T at *
    obtain ⟨pl, rs, ws⟩ := T
    simp only at h8 hX hY htl hdo ⊢
    obtain ⟨env5, x5a, x5b, x5c, x5d⟩ := rT cx env4 σ2 s.length x _ _ tc ts pl X Y x4b hcx f3 ga slV_plain slV_plain hX.plain hY.plain h8 (wokst hro ho.2.2) ho.2.2
    have f0 := (x5d 0 (by decide)).trans f0
    have f1 := (x5d 1 (by decide)).trans f1
    have f3 := (x5d 3 (by decide)).trans f3
    have f4 := (x5d 4 (by decide)).trans f4
    have f5 := (x5d 5 (by decide)).trans f5
    have f6 := (x5d 6 (by decide)).trans f6
    have f26 := (x5d 26 (by decide)).trans f26
    have f9 := x5c
    have g5 : ((σ2 : AS).push false (.cells [.int .i64 tc, .int .u64 ts, .bool pl, X, Y])).get (.st (σ2 : AS).st.length) = some (.cells [.int .i64 tc, .int .u64 ts, .bool pl, X, Y]) := AS.get_push_at rfl
    have ga := get_push' (ob' := .cells [.int .i64 tc, .int .u64 ts, .bool pl, X, Y]) ga
    have g2 := get_push' (ob' := .cells [.int .i64 tc, .int .u64 ts, .bool pl, X, Y]) g2
    have ho := ho.push (ob := .cells [.int .i64 tc, .int .u64 ts, .bool pl, X, Y])
    generalize hib5 : (σ2 : AS).st.length = ib5 at g5 f9
    generalize (σ2 : AS).push false (.cells [.int .i64 tc, .int .u64 ts, .bool pl, X, Y]) = σ5 at x5a g5 ga g2 ho
    obtain ⟨env6, x6a, x6b, x6c, x6d⟩ := rU cx env5 σ5  x5b hcx   
    have f0 := (x6d 0 (by decide)).trans f0
    have f1 := (x6d 1 (by decide)).trans f1
    have f3 := (x6d 3 (by decide)).trans f3
    have f4 := (x6d 4 (by decide)).trans f4
    have f5 := (x6d 5 (by decide)).trans f5
    have f6 := (x6d 6 (by decide)).trans f6
    have f9 := (x6d 9 (by decide)).trans f9
    have f26 := (x6d 26 (by decide)).trans f26
    have f10 := x6c
    have hl1 := (rd29 (σ := σ5) hX).1
    rw [List.length_map] at hl1
    obtain ⟨env7, x7a, x7b, x7c, x7d⟩ := rV cx env6 σ5 _ rs.length tc ts pl X Y x6b hcx f9 g5 hX.plain hY.plain hl1 
    have f0 := (x7d 0 (by decide)).trans f0
    have f1 := (x7d 1 (by decide)).trans f1
    have f3 := (x7d 3 (by decide)).trans f3
    have f4 := (x7d 4 (by decide)).trans f4
    have f5 := (x7d 5 (by decide)).trans f5
    have f6 := (x7d 6 (by decide)).trans f6
    have f9 := (x7d 9 (by decide)).trans f9
    have f10 := (x7d 10 (by decide)).trans f10
    have f26 := (x7d 26 (by decide)).trans f26
    have f65 := x7c.1
    have f66 := x7c.2.1
    have f67 := x7c.2.2
    have hhp : σ5.hp = hp := ho.1
    obtain ⟨e8, env8, σ8, x8a, x8p⟩ := loop1 cx hcx hro ⟨hp, s⟩ s.length b ib2 ib5 _ x _ _ tc ts pl X Y rs S M hA hM (by omega) hX (by omega) (σ := σ5) x7b f67 f66 (⟨f0, f3, f5, f6, f9, f10, f65, ga, g2, g5, ho⟩)
    rcases x8p with ⟨rfl, ⟨x8b, f0, f3, f5, f6, f9, f10, f65, q0, q1, q2, ho⟩ | x8p⟩ | ⟨x8q, x8r, x8p⟩
    · skip
      obtain ⟨env9, x9a, x9b, x9c, x9d⟩ := rW cx env8 σ8 s.length x _ _ x8b hcx f3 q0 slV_plain slV_plain 
      have f0 := (x9d 0 (by decide)).trans f0
      have f3 := (x9d 3 (by decide)).trans f3
      have f5 := (x9d 5 (by decide)).trans f5
      have f6 := (x9d 6 (by decide)).trans f6
      have f9 := (x9d 9 (by decide)).trans f9
      have f10 := (x9d 10 (by decide)).trans f10
      have f65 := (x9d 65 (by decide)).trans f65
      have f13 := x9c
      obtain ⟨env10, x10a, x10b, x10c, x10d⟩ := rX cx env9 σ8 s.length _ _ x _ _ x9b hcx f3 f10 f13 q0 slV_plain slV_plain 
      have f0 := (x10d 0 (by decide)).trans f0
      have f3 := (x10d 3 (by decide)).trans f3
      have f5 := (x10d 5 (by decide)).trans f5
      have f6 := (x10d 6 (by decide)).trans f6
      have f9 := (x10d 9 (by decide)).trans f9
      have f10 := (x10d 10 (by decide)).trans f10
      have f13 := (x10d 13 (by decide)).trans f13
      have f65 := (x10d 65 (by decide)).trans f65
      have f14 := x10c
      generalize hb14 : (((decide (x.code = 0) && _) || _) || _) = b14 at f14
      obtain ⟨env11, x11a, x11b, x11c, x11d⟩ := rY cx env10 σ8  x10b hcx   
      have f0 := (x11d 0 (by decide)).trans f0
      have f3 := (x11d 3 (by decide)).trans f3
      have f5 := (x11d 5 (by decide)).trans f5
      have f6 := (x11d 6 (by decide)).trans f6
      have f9 := (x11d 9 (by decide)).trans f9
      have f10 := (x11d 10 (by decide)).trans f10
      have f13 := (x11d 13 (by decide)).trans f13
      have f14 := (x11d 14 (by decide)).trans f14
      have f65 := (x11d 65 (by decide)).trans f65
      have f15 := x11c
      obtain ⟨env12, x12a, x12b, x12c, x12d⟩ := rZ cx env11 σ8 s.length x _ _ x11b hcx f3 q0 slV_plain slV_plain 
      have f0 := (x12d 0 (by decide)).trans f0
      have f3 := (x12d 3 (by decide)).trans f3
      have f5 := (x12d 5 (by decide)).trans f5
      have f6 := (x12d 6 (by decide)).trans f6
      have f9 := (x12d 9 (by decide)).trans f9
      have f10 := (x12d 10 (by decide)).trans f10
      have f13 := (x12d 13 (by decide)).trans f13
      have f14 := (x12d 14 (by decide)).trans f14
      have f15 := (x12d 15 (by decide)).trans f15
      have f65 := (x12d 65 (by decide)).trans f65
      have f115 := x12c
      have ev2 := ev_tmp f115
      by_cases qc : x.code = 0
      · rw [decide_eq_true qc] at ev2
        rw [if_pos qc]
        have hl2 := (rd30 (σ := σ8) hY).1
        rw [List.length_map] at hl2
        obtain ⟨env13, x13a, x13b, x13c, x13d⟩ := rH cx env12 σ8 _ ws.length tc ts pl X Y x12b hcx f9 q2 hX.plain hY.plain hl2 
        have f0 := (x13d 0 (by decide)).trans f0
        have f3 := (x13d 3 (by decide)).trans f3
        have f5 := (x13d 5 (by decide)).trans f5
        have f6 := (x13d 6 (by decide)).trans f6
        have f9 := (x13d 9 (by decide)).trans f9
        have f10 := (x13d 10 (by decide)).trans f10
        have f13 := (x13d 13 (by decide)).trans f13
        have f14 := (x13d 14 (by decide)).trans f14
        have f15 := (x13d 15 (by decide)).trans f15
        have f65 := (x13d 65 (by decide)).trans f65
        have f115 := (x13d 115 (by decide)).trans f115
        have f117 := x13c.1
        have f118 := x13c.2.1
        have f119 := x13c.2.2
        have hhp : σ8.hp = hp := ho.1
        have hoo : Outside s.length (AS.mk σ8.hp s) σ8 := ⟨rfl, ho.2.1, ho.2.2⟩
        have hs0 : SetR hp σ8.hp b (putsK S (ws.take 0)) := by rw [hhp]; exact SetR.refl hA hM
        obtain ⟨e14, env14, σ14, x14a, x14p⟩ := loop2 cx hcx hro ⟨hp, s⟩ s.length b ib2 ib5 _ x _ _ tc ts pl X Y _ _ ws S rfl (by omega) hY (by omega) (σ := σ8) x13b f119 f118 (⟨f0, f3, f5, f6, f9, f14, f15, f117, q0, q1, q2, hs0, hoo⟩)
        rcases x14p with ⟨rfl, ⟨x14b, f0, f3, f5, f6, f9, f14, f15, f117, q0, q1, q2, q3, ho⟩ | x14p⟩ | ⟨x14q, x14r, x14p⟩
        · skip
          rw [List.take_length] at q3
          obtain ⟨env15, x15a, x15b, x15c, x15d⟩ := rI cx env14 σ14 _ tc ts pl X Y x14b hcx f9 q2 hX.plain hY.plain 
          have f0 := (x15d 0 (by decide)).trans f0
          have f3 := (x15d 3 (by decide)).trans f3
          have f5 := (x15d 5 (by decide)).trans f5
          have f6 := (x15d 6 (by decide)).trans f6
          have f9 := (x15d 9 (by decide)).trans f9
          have f14 := (x15d 14 (by decide)).trans f14
          have f15 := (x15d 15 (by decide)).trans f15
          have f117 := (x15d 117 (by decide)).trans f117
          have f128 := x15c
          have ev4 := ev_tmp f128
          obtain ⟨M2, hA2, hM2⟩ := q3.2.2
          have hpl := putsK_len ws S
          have h7 := F7.ok σ14.hp σ14.st none b x.key M2 (putsK S ws) (fun k hk => by cases hk) hA2 hM2 (by omega)
          cases pl with
          | true =>
            obtain ⟨env16, x16a, x16b, x16c, x16d⟩ := rJ cx env15 σ14 s.length b x _ _ x.key ((ofK (putsK S ws) x.key).1) ((ofK (putsK S ws) x.key).2.1) ((ofK (putsK S ws) x.key).2.2) x15b hcx f0 f3 q0 slV_plain slV_plain h7 
            have f0 := (x16d 0 (by decide)).trans f0
            have f3 := (x16d 3 (by decide)).trans f3
            have f5 := (x16d 5 (by decide)).trans f5
            have f6 := (x16d 6 (by decide)).trans f6
            have f9 := (x16d 9 (by decide)).trans f9
            have f14 := (x16d 14 (by decide)).trans f14
            have f117 := (x16d 117 (by decide)).trans f117
            have f128 := (x16d 128 (by decide)).trans f128
            have f15 := x16c
            obtain ⟨env17, x17a, x17b, x17c, x17d⟩ := rM cx env16 σ14 s.length _ _ _ x _ _ x16b hcx f3 f5 f6 f15 q0 slV_plain slV_plain q1 
            have f0 := (x17d 0 (by decide)).trans f0
            have f3 := (x17d 3 (by decide)).trans f3
            have f5 := (x17d 5 (by decide)).trans f5
            have f6 := (x17d 6 (by decide)).trans f6
            have f9 := (x17d 9 (by decide)).trans f9
            have f14 := (x17d 14 (by decide)).trans f14
            have f15 := (x17d 15 (by decide)).trans f15
            have f117 := (x17d 117 (by decide)).trans f117
            have f128 := (x17d 128 (by decide)).trans f128
            have f153 := x17c
            generalize hb153 : (decide (x.an ≠ 0) && _) = b153 at f153
            have ev3 := ev_tmp f153
            cases b153 with
            | true =>
                obtain ⟨env18, x18a, x18b, x18c, x18d⟩ := rMr cx env17 σ14  x17b hcx   
                have f0 := (x18d 0 (by decide)).trans f0
                have f3 := (x18d 3 (by decide)).trans f3
                have f5 := (x18d 5 (by decide)).trans f5
                have f6 := (x18d 6 (by decide)).trans f6
                have f9 := (x18d 9 (by decide)).trans f9
                have f14 := (x18d 14 (by decide)).trans f14
                have f15 := (x18d 15 (by decide)).trans f15
                have f117 := (x18d 117 (by decide)).trans f117
                have f128 := (x18d 128 (by decide)).trans f128
                have f153 := (x18d 153 (by decide)).trans f153
                have f4 := x18c
                exact ⟨false, _, call_of (fl := {}) (fn := Try.f9) (c := bodyC) (env := env) (e := (.ret, (env18, σ14))) rfl Try.func9 body henv (by unfold bodyC; exact (execW_seq_of x1a (execW_seq_of x2a (execW_seq_of x3a (execW_seq_of (execW_seq_of x4a (execW_cond_f ev1 (by rfl))) (execW_seq_of x5a (execW_seq_of x6a (execW_seq_of (execW_seq_of x7a x8a) (execW_seq_of x9a (execW_seq_of x10a (execW_seq_of x11a (execW_seq_of (execW_seq_of x12a (execW_cond_t ev2 (execW_seq_of (execW_seq_of x13a x14a) (execW_seq_of x15a (execW_cond_t ev4 x16a))))) (execW_seq_ret (execW_seq_of x17a (execW_cond_t ev3 x18a))))))))))))))) ((fin_tmp (k := 4) (.inl rfl) rfl rfl f4 (by simp [AV.back]) (by simp [AV.inb])).trans (congrArg (fun x => some (_, AS.mk _ x)) (ho.2.1.trans List.take_length))), q3⟩
            | false =>
                obtain ⟨env18, x18a, x18b, x18c, x18d⟩ := rF cx env17 σ14 _ x17b hcx f14  
                have f0 := (x18d 0 (by decide)).trans f0
                have f3 := (x18d 3 (by decide)).trans f3
                have f5 := (x18d 5 (by decide)).trans f5
                have f6 := (x18d 6 (by decide)).trans f6
                have f9 := (x18d 9 (by decide)).trans f9
                have f14 := (x18d 14 (by decide)).trans f14
                have f15 := (x18d 15 (by decide)).trans f15
                have f117 := (x18d 117 (by decide)).trans f117
                have f128 := (x18d 128 (by decide)).trans f128
                have f153 := (x18d 153 (by decide)).trans f153
                have f4 := x18c
                exact ⟨b14, _, call_of (fl := {}) (fn := Try.f9) (c := bodyC) (env := env) (e := (.ret, (env18, σ14))) rfl Try.func9 body henv (by unfold bodyC; exact (execW_seq_of x1a (execW_seq_of x2a (execW_seq_of x3a (execW_seq_of (execW_seq_of x4a (execW_cond_f ev1 (by rfl))) (execW_seq_of x5a (execW_seq_of x6a (execW_seq_of (execW_seq_of x7a x8a) (execW_seq_of x9a (execW_seq_of x10a (execW_seq_of x11a (execW_seq_of (execW_seq_of x12a (execW_cond_t ev2 (execW_seq_of (execW_seq_of x13a x14a) (execW_seq_of x15a (execW_cond_t ev4 x16a))))) (execW_seq_of (execW_seq_of x17a (execW_cond_f ev3 (by rfl))) (execW_seq_of x18a (by rfl))))))))))))))) ((fin_tmp (k := 4) (.inl rfl) rfl rfl f4 (by simp [AV.back]) (by simp [AV.inb])).trans (congrArg (fun x => some (_, AS.mk _ x)) (ho.2.1.trans List.take_length))), q3⟩
          | false =>
            obtain ⟨env16, x16a, x16b, x16c, x16d⟩ := rM cx env15 σ14 s.length _ _ 0 x _ _ x15b hcx f3 f5 f6 f15 q0 slV_plain slV_plain q1 
            have f0 := (x16d 0 (by decide)).trans f0
            have f3 := (x16d 3 (by decide)).trans f3
            have f5 := (x16d 5 (by decide)).trans f5
            have f6 := (x16d 6 (by decide)).trans f6
            have f9 := (x16d 9 (by decide)).trans f9
            have f14 := (x16d 14 (by decide)).trans f14
            have f15 := (x16d 15 (by decide)).trans f15
            have f117 := (x16d 117 (by decide)).trans f117
            have f128 := (x16d 128 (by decide)).trans f128
            have f153 := x16c
            generalize hb153 : (decide (x.an ≠ 0) && _) = b153 at f153
            have ev3 := ev_tmp f153
            cases b153 with
            | true =>
                obtain ⟨env17, x17a, x17b, x17c, x17d⟩ := rMr cx env16 σ14  x16b hcx   
                have f0 := (x17d 0 (by decide)).trans f0
                have f3 := (x17d 3 (by decide)).trans f3
                have f5 := (x17d 5 (by decide)).trans f5
                have f6 := (x17d 6 (by decide)).trans f6
                have f9 := (x17d 9 (by decide)).trans f9
                have f14 := (x17d 14 (by decide)).trans f14
                have f15 := (x17d 15 (by decide)).trans f15
                have f117 := (x17d 117 (by decide)).trans f117
                have f128 := (x17d 128 (by decide)).trans f128
                have f153 := (x17d 153 (by decide)).trans f153
                have f4 := x17c
                exact ⟨false, _, call_of (fl := {}) (fn := Try.f9) (c := bodyC) (env := env) (e := (.ret, (env17, σ14))) rfl Try.func9 body henv (by unfold bodyC; exact (execW_seq_of x1a (execW_seq_of x2a (execW_seq_of x3a (execW_seq_of (execW_seq_of x4a (execW_cond_f ev1 (by rfl))) (execW_seq_of x5a (execW_seq_of x6a (execW_seq_of (execW_seq_of x7a x8a) (execW_seq_of x9a (execW_seq_of x10a (execW_seq_of x11a (execW_seq_of (execW_seq_of x12a (execW_cond_t ev2 (execW_seq_of (execW_seq_of x13a x14a) (execW_seq_of x15a (execW_cond_f ev4 (by rfl)))))) (execW_seq_ret (execW_seq_of x16a (execW_cond_t ev3 x17a))))))))))))))) ((fin_tmp (k := 4) (.inl rfl) rfl rfl f4 (by simp [AV.back]) (by simp [AV.inb])).trans (congrArg (fun x => some (_, AS.mk _ x)) (ho.2.1.trans List.take_length))), q3⟩
            | false =>
                obtain ⟨env17, x17a, x17b, x17c, x17d⟩ := rF cx env16 σ14 _ x16b hcx f14  
                have f0 := (x17d 0 (by decide)).trans f0
                have f3 := (x17d 3 (by decide)).trans f3
                have f5 := (x17d 5 (by decide)).trans f5
                have f6 := (x17d 6 (by decide)).trans f6
                have f9 := (x17d 9 (by decide)).trans f9
                have f14 := (x17d 14 (by decide)).trans f14
                have f15 := (x17d 15 (by decide)).trans f15
                have f117 := (x17d 117 (by decide)).trans f117
                have f128 := (x17d 128 (by decide)).trans f128
                have f153 := (x17d 153 (by decide)).trans f153
                have f4 := x17c
                exact ⟨b14, _, call_of (fl := {}) (fn := Try.f9) (c := bodyC) (env := env) (e := (.ret, (env17, σ14))) rfl Try.func9 body henv (by unfold bodyC; exact (execW_seq_of x1a (execW_seq_of x2a (execW_seq_of x3a (execW_seq_of (execW_seq_of x4a (execW_cond_f ev1 (by rfl))) (execW_seq_of x5a (execW_seq_of x6a (execW_seq_of (execW_seq_of x7a x8a) (execW_seq_of x9a (execW_seq_of x10a (execW_seq_of x11a (execW_seq_of (execW_seq_of x12a (execW_cond_t ev2 (execW_seq_of (execW_seq_of x13a x14a) (execW_seq_of x15a (execW_cond_f ev4 (by rfl)))))) (execW_seq_of (execW_seq_of x16a (execW_cond_f ev3 (by rfl))) (execW_seq_of x17a (by rfl))))))))))))))) ((fin_tmp (k := 4) (.inl rfl) rfl rfl f4 (by simp [AV.back]) (by simp [AV.inb])).trans (congrArg (fun x => some (_, AS.mk _ x)) (ho.2.1.trans List.take_length))), q3⟩
        · cases x14p
        · cases x14p
      · rw [decide_eq_false qc] at ev2
        rw [if_neg qc]
        have hs0 : SetR hp σ8.hp b S := by rw [ho.1]; exact SetR.refl hA hM
        obtain ⟨env13, x13a, x13b, x13c, x13d⟩ := rM cx env12 σ8 s.length _ _ 0 x _ _ x12b hcx f3 f5 f6 f15 q0 slV_plain slV_plain q1 
        have f0 := (x13d 0 (by decide)).trans f0
        have f3 := (x13d 3 (by decide)).trans f3
        have f5 := (x13d 5 (by decide)).trans f5
        have f6 := (x13d 6 (by decide)).trans f6
        have f9 := (x13d 9 (by decide)).trans f9
        have f10 := (x13d 10 (by decide)).trans f10
        have f13 := (x13d 13 (by decide)).trans f13
        have f14 := (x13d 14 (by decide)).trans f14
        have f15 := (x13d 15 (by decide)).trans f15
        have f65 := (x13d 65 (by decide)).trans f65
        have f115 := (x13d 115 (by decide)).trans f115
        have f153 := x13c
        generalize hb153 : (decide (x.an ≠ 0) && _) = b153 at f153
        have ev3 := ev_tmp f153
        cases b153 with
        | true =>
            obtain ⟨env14, x14a, x14b, x14c, x14d⟩ := rMr cx env13 σ8  x13b hcx   
            have f0 := (x14d 0 (by decide)).trans f0
            have f3 := (x14d 3 (by decide)).trans f3
            have f5 := (x14d 5 (by decide)).trans f5
            have f6 := (x14d 6 (by decide)).trans f6
            have f9 := (x14d 9 (by decide)).trans f9
            have f10 := (x14d 10 (by decide)).trans f10
            have f13 := (x14d 13 (by decide)).trans f13
            have f14 := (x14d 14 (by decide)).trans f14
            have f15 := (x14d 15 (by decide)).trans f15
            have f65 := (x14d 65 (by decide)).trans f65
            have f115 := (x14d 115 (by decide)).trans f115
            have f153 := (x14d 153 (by decide)).trans f153
            have f4 := x14c
            exact ⟨false, _, call_of (fl := {}) (fn := Try.f9) (c := bodyC) (env := env) (e := (.ret, (env14, σ8))) rfl Try.func9 body henv (by unfold bodyC; exact (execW_seq_of x1a (execW_seq_of x2a (execW_seq_of x3a (execW_seq_of (execW_seq_of x4a (execW_cond_f ev1 (by rfl))) (execW_seq_of x5a (execW_seq_of x6a (execW_seq_of (execW_seq_of x7a x8a) (execW_seq_of x9a (execW_seq_of x10a (execW_seq_of x11a (execW_seq_of (execW_seq_of x12a (execW_cond_f ev2 (by rfl))) (execW_seq_ret (execW_seq_of x13a (execW_cond_t ev3 x14a))))))))))))))) ((fin_tmp (k := 4) (.inl rfl) rfl rfl f4 (by simp [AV.back]) (by simp [AV.inb])).trans (congrArg (fun x => some (_, AS.mk _ x)) (ho.2.1.trans List.take_length))), hs0⟩
        | false =>
            obtain ⟨env14, x14a, x14b, x14c, x14d⟩ := rF cx env13 σ8 _ x13b hcx f14  
            have f0 := (x14d 0 (by decide)).trans f0
            have f3 := (x14d 3 (by decide)).trans f3
            have f5 := (x14d 5 (by decide)).trans f5
            have f6 := (x14d 6 (by decide)).trans f6
            have f9 := (x14d 9 (by decide)).trans f9
            have f10 := (x14d 10 (by decide)).trans f10
            have f13 := (x14d 13 (by decide)).trans f13
            have f14 := (x14d 14 (by decide)).trans f14
            have f15 := (x14d 15 (by decide)).trans f15
            have f65 := (x14d 65 (by decide)).trans f65
            have f115 := (x14d 115 (by decide)).trans f115
            have f153 := (x14d 153 (by decide)).trans f153
            have f4 := x14c
            exact ⟨b14, _, call_of (fl := {}) (fn := Try.f9) (c := bodyC) (env := env) (e := (.ret, (env14, σ8))) rfl Try.func9 body henv (by unfold bodyC; exact (execW_seq_of x1a (execW_seq_of x2a (execW_seq_of x3a (execW_seq_of (execW_seq_of x4a (execW_cond_f ev1 (by rfl))) (execW_seq_of x5a (execW_seq_of x6a (execW_seq_of (execW_seq_of x7a x8a) (execW_seq_of x9a (execW_seq_of x10a (execW_seq_of x11a (execW_seq_of (execW_seq_of x12a (execW_cond_f ev2 (by rfl))) (execW_seq_of (execW_seq_of x13a (execW_cond_f ev3 (by rfl))) (execW_seq_of x14a (by rfl))))))))))))))) ((fin_tmp (k := 4) (.inl rfl) rfl rfl f4 (by simp [AV.back]) (by simp [AV.inb])).trans (congrArg (fun x => some (_, AS.mk _ x)) (ho.2.1.trans List.take_length))), hs0⟩
    · cases x8p
    · cases x8p
end F9
