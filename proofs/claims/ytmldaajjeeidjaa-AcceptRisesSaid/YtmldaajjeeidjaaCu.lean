/- The law AcceptRises, run. -/
import Derived.Test.YtmldaajjeeidjaaCt
open Go Go.Abs Go.Proofs
set_option maxRecDepth 100000
set_option maxHeartbeats 4000000
set_option linter.unusedSimpArgs false
set_option linter.unusedVariables false
namespace F5
theorem fin_code (st' : AS) (e : Env) (b : Bool) (h2 : Env.get e 2 = .bool b) : ∃ σ', finishA Try.prog { tails := [2000008] } Try.f5 0 (some (.ret, (e, st'))) = some (.bool b, σ') := by
  refine ⟨⟨st'.hp, st'.st.take 0⟩, ?_⟩
  simp -implicitDefEqProofs [finishA, resA, Try.f5, h2, oneA, AV.back, AV.inb]
theorem ok (x : AV) (hx : F4.isOps x) : ∃ σ', callW Try.prog how 5 [x] ⟨[], []⟩ none = some (.bool true, σ') := by
  have henv : ∃ e, e = frameA Try.f5 [x] := ⟨_, rfl⟩
  obtain ⟨env, henv⟩ := henv
  have hl : env.length = 123 := by rw [henv]; rfl
  have h0 : Env.get env 0 = x := by rw [henv]; rfl
  suffices h : ∃ e σ', execW Try.prog cx [2000008] (callW Try.prog how) ((cr [.l]).seq ((cr [.r, .l]).seq (((cr [.r, .r, .l, .l]).seq (cr [.r, .r, .l, .r])).seq ((cr [.r, .r, .r, .l]).seq .ret)))) (env, ⟨[], []⟩) = some (.ret, (e, σ')) ∧ Env.get e 2 = .bool true by
    obtain ⟨e, σ1, hr, h4⟩ := h
    obtain ⟨σ', hf⟩ := fin_code σ1 e true h4
    refine ⟨σ', callW_body (fl := { tails := [2000008] }) (fn := Try.f5) rfl Try.func5 body ?_⟩
    rw [← henv]
    exact (congrArg (finishA Try.prog { tails := [2000008] } Try.f5 0) hr).trans hf
  clear henv
  obtain ⟨env1, a1, a2, a3, a4⟩ := rA cx env ⟨[], []⟩ hl rfl
  obtain ⟨env2, b1, b2, b3, b4⟩ := rN cx env1 ⟨[], []⟩ ⟨[AObj.map [], AObj.cells [.int .u64 0, .int .i64 0, .map (.hp 0)]], []⟩ 1 a2 rfl (f6_ok [] [])
  have f0 := (b4 0 (by decide)).trans ((a4 0 (by decide)).trans h0)
  have hO : One [AObj.map [], AObj.cells [.int .u64 0, .int .i64 0, .map (.hp 0)]] 1 ⟨0, 0, []⟩ := ⟨0, [], rfl, rfl, List.Perm.refl _⟩
  have hG : GoodS ⟨0, 0, []⟩ := ⟨List.Pairwise.nil, fun v hv => (by cases hv), by simp⟩
  have hU : Under ⟨0, 0, []⟩ := fun v hv => (by cases hv)
  have last : ∀ e σ, e.length = 123 → ∃ e' σ', execW Try.prog cx [2000008] (callW Try.prog how) ((cr [.r, .r, .r, .l]).seq .ret) (e, σ) = some (.ret, (e', σ')) ∧ Env.get e' 2 = .bool true := by
    intro e σ hle
    obtain ⟨hp', h11⟩ := f11_ok σ.hp σ.st
    obtain ⟨e', c1, c2, c3, c4⟩ := rZ cx e σ _ hle rfl h11
    exact ⟨e', _, execW_seq_of (b := .ret) c1 rfl, c3⟩
  have key : ∃ es : List AV, (∀ e ∈ es, F4.isOp e) ∧ es.length ≤ 9223372036854775807 ∧ (es = [] ∨ x = .sl false 6 es) ∧ ∃ env3, execW Try.prog cx [2000008] (callW Try.prog how) (cr [.r, .r, .l, .l]) (env2, ⟨[AObj.map [], AObj.cells [.int .u64 0, .int .i64 0, .map (.hp 0)]], []⟩) = some (.normal, (env3, ⟨[AObj.map [], AObj.cells [.int .u64 0, .int .i64 0, .map (.hp 0)]], []⟩)) ∧ env3.length = 123 ∧ (Env.get env3 20 = x ∧ Env.get env3 21 = .int .i64 (es.length : Int) ∧ Env.get env3 22 = .int .i64 0) ∧ ∀ i, i ∉ [20, 21, 22] → Env.get env3 i = Env.get env2 i := by
    rcases hx with rfl | ⟨es, rfl, hle, hes⟩
    · exact ⟨[], fun e he => (by cases he), by simp, .inl rfl, rLn cx env2 _ b2 rfl f0⟩
    · exact ⟨es, hes, hle, .inr rfl, rLs cx env2 _ es b2 rfl f0⟩
  obtain ⟨es, hes, hle, hxe, env3, c1, c2, c3, c4⟩ := key
  have hJ0 : J x 0 env3 ⟨[AObj.map [], AObj.cells [.int .u64 0, .int .i64 0, .map (.hp 0)]], []⟩ := ⟨(c4 3 (by decide)).trans b3, c3.1, ⟨0, 0, []⟩, hO, hG, hU⟩
  have hloop : ∃ e env' σ', execW Try.prog cx [2000008] (callW Try.prog how) (cr [.r, .r, .l, .r]) (env3, ⟨[AObj.map [], AObj.cells [.int .u64 0, .int .i64 0, .map (.hp 0)]], []⟩) = some (e, (env', σ')) ∧ ((e = .normal ∧ ((env'.length = 123 ∧ J x es.length env' σ') ∨ (AExit.exit 0 = .exit 0 ∧ env'.length = 123))) ∨ (e ≠ .normal ∧ e ≠ .exit 0 ∧ (e = .exit 0 ∧ env'.length = 123))) := by
    rw [loop_eq]
    refine range_std (Ex := fun e env' _ => e = .exit 0 ∧ env'.length = 123) (N := 123) (tc := 23) (ti := 22) (tl := 21) (tx := 121) (ty1 := 3) (ty2 := 3) (ty3 := 3) (ty4 := 3) ⟨by kernel_rfl, by kernel_rfl, by kernel_rfl⟩ ⟨by kernel_rfl, by kernel_rfl, by kernel_rfl⟩ ⟨by kernel_rfl, by kernel_rfl, by kernel_rfl⟩ (by decide) hle J_stable ?_ c2 c3.2.2 c3.2.1 hJ0
    rcases hxe with rfl | rfl
    · intro k env σ hk
      cases hk
    · exact step es hes
  obtain ⟨e, env5, σ5, d1, d2⟩ := hloop
  have hlen : e = .normal ∧ env5.length = 123 := by
    rcases d2 with ⟨rfl, ⟨d2, _⟩ | ⟨_, d2⟩⟩ | ⟨_, d2, d3, _⟩
    · exact ⟨rfl, d2⟩
    · exact ⟨rfl, d2⟩
    · exact absurd d3 d2
  obtain ⟨rfl, hlen⟩ := hlen
  obtain ⟨e', σ', g1, g2⟩ := last env5 σ5 hlen
  exact ⟨e', σ', execW_seq_of a1 (execW_seq_of b1 (execW_seq_of (execW_seq_of c1 d1) g1)), g2⟩
end F5
