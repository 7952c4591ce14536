/- It is proved that a state that is not there has nothing, for every transaction, key and number; there is no condition. -/
import Derived.Test.YteanbldkbfdniaaGreatSe
import Derived.Test.YteanbldkbfdniaaGreatRows
open Go Go.Abs Go.Proofs
set_option maxRecDepth 100000
set_option maxHeartbeats 4000000
set_option linter.unusedSimpArgs false
set_option linter.unusedVariables false
theorem rd_of {cs : List AV} (h : hasCs Tryz.prog 5 26 cs) : ∃ x, cs = [x] ∧ isRd x := by
  simp only [hasCs, Tryz.underlying26] at h
  rcases h with rfl | ⟨es, rfl, hl, he⟩
  · exact ⟨_, rfl, .inl rfl⟩
  · refine ⟨_, rfl, .inr ⟨es, rfl, hl, fun x hx => ?_⟩⟩
    obtain ⟨_, xs, e, hc⟩ := he x hx
    simp only [hasCs, Tryz.underlying66, hasFs, Tryz.underlying9, Tryz.underlying23] at hc
    obtain ⟨ys, zs, rfl, ⟨s, rfl, _⟩, ys2, zs2, rfl, ⟨i, rfl, _⟩, rfl⟩ := hc
    have ha : isAggT Tryz.prog 66 = true := by kernel_rfl
    simp only [Go.Abs.elemOf, ha, if_true] at e
    exact ⟨s, i, e⟩
theorem wr_of {cs : List AV} (h : hasCs Tryz.prog 5 27 cs) : ∃ x, cs = [x] ∧ isWr x := by
  simp only [hasCs, Tryz.underlying27] at h
  rcases h with rfl | ⟨es, rfl, hl, he⟩
  · exact ⟨_, rfl, .inl rfl⟩
  · refine ⟨_, rfl, .inr ⟨es, rfl, hl, fun x hx => ?_⟩⟩
    obtain ⟨_, xs, e, hc⟩ := he x hx
    simp only [hasCs, Tryz.underlying68, hasFs, Tryz.underlying9, Tryz.underlying4] at hc
    obtain ⟨ys, zs, rfl, ⟨s, rfl, _⟩, ys2, zs2, rfl, ⟨i, rfl, _⟩, ys3, zs3, rfl, ⟨b, rfl⟩, rfl⟩ := hc
    have ha : isAggT Tryz.prog 68 = true := by kernel_rfl
    simp only [Go.Abs.elemOf, ha, if_true] at e
    exact ⟨s, i, b, e⟩
namespace Go.Proofs.YteanbldkbfdniaaGreat
/-- What a function's text asks of the interpreter. -/
def fnOk (P : Program) (how : FuncId → Option How) (f : Nat) : Bool :=
  match how f with
  | some (.body fl) => match P.funcs[f]? with
    | some fn => match fn.body with
      | some c => codeOk P fl.tails c && !(fn.name == "runtime.NumGoroutine")
      | none => true
    | none => true
  | _ => true
theorem fnOk_body {P : Program} {how : FuncId → Option How} {f : Nat} (h : fnOk P how f = true) {fl : Flags} {fn : Func} {c : Code} (h1 : how f = some (.body fl)) (h2 : P.funcs[f]? = some fn) (h3 : fn.body = some c) : codeOk P fl.tails c = true ∧ (fn.name == "runtime.NumGoroutine") = false := by
  unfold fnOk at h
  rw [h1] at h
  simp only [h2, h3] at h
  simpa using h
theorem allOk : ∀ f, f < 153 → fnOk Tryz.prog bodyHow f = true := by
  have h : (List.range 153).all (fnOk Tryz.prog bodyHow) = true := by kernel_rfl
  intro f hf
  exact List.all_eq_true.1 h f (List.mem_range.2 hf)
theorem tabLow : (bodyTab.all fun p => decide (p.1 < 153)) = true := by decide
theorem bodyHow_low {f : FuncId} {x : How} (h : bodyHow f = some x) : f < 153 := by
  unfold bodyHow at h
  obtain ⟨p, hp, _⟩ := Option.map_eq_some_iff.1 h
  have h1 := List.all_eq_true.1 tabLow p (List.mem_of_find?_eq_some hp)
  have h2 := List.find?_some hp
  simp only [beq_iff_eq] at h2
  rw [← h2]
  simpa using h1
theorem bodyHow_body {f : FuncId} {p : List AV → AS → Option Nat → Option (AV × AS)} : bodyHow f ≠ some (.prim p) := by
  unfold bodyHow
  intro h
  obtain ⟨p, _, h1⟩ := Option.map_eq_some_iff.1 h
  cases h1
theorem howOk : HowOk Tryz.prog how := {
  body := by
    intro f fl fn c h1 h2 h3
    unfold how at h1
    exact fnOk_body (allOk f (bodyHow_low h1)) h1 h2 h3
  prim := by
    intro f p h
    unfold how at h
    exact absurd h bodyHow_body }
theorem hm : Tryz.prog.follows .mixedOrders = true := by kernel_rfl
open Go.ChangeShapes Go.WideShapes Go.ChangeAt Go.RowKit
theorem own : ownKnob Tryz.prog.godebug = none := by kernel_rfl
theorem laidOut : laidOutB Tryz.prog = true := by kernel_rfl
theorem shape : shapeOk Tryz.prog 6 Tryz.f7 = true := by kernel_rfl
theorem arg0 {c : AV} (h : hasT Tryz.prog 6 29 c) : ∃ (n1 n2 : Int) (bb : Bool) (x1 x2 : AV), isRd x1 ∧ isWr x2 ∧ c = .agg [.int .i64 n1, .int .u64 n2, .bool bb, x1, x2] := by
  obtain ⟨cs, e, h⟩ := h
  have ha : isAggT Tryz.prog 29 = true := by kernel_rfl
  simp only [Go.Abs.elemOf, ha, if_true] at e
  subst e
  unfold hasCs at h
  simp only [Tryz.underlying29, hasFs] at h
  obtain ⟨x1, y1, rfl, h1, x2, y2, rfl, h2, x3, y3, rfl, h3, x4, y4, rfl, h4, rfl⟩ := h
  obtain ⟨rd, rfl, r1⟩ := rd_of h3
  obtain ⟨wr, rfl, r2⟩ := wr_of h4
  unfold hasCs at h1 h2
  simp only [Tryz.underlying25, Tryz.underlying4, hasFs] at h1 h2
  obtain ⟨xa, ya, rfl, g1, xb, yb, rfl, g2, rfl⟩ := h1
  obtain ⟨bb, rfl⟩ := h2
  unfold hasCs at g1 g2
  simp only [Tryz.underlying3, Tryz.underlying23] at g1 g2
  obtain ⟨n1, rfl, _⟩ := g1
  obtain ⟨n2, rfl, _⟩ := g2
  exact ⟨n1, n2, bb, rd, wr, r1, r2, rfl⟩
theorem arg1 {c : AV} (h : hasT Tryz.prog 6 9 c) : ∃ s, c = .str s := by
  obtain ⟨cs, e, h⟩ := h
  have ha : isAggT Tryz.prog 9 = false := by kernel_rfl
  simp only [Go.Abs.elemOf, ha, Bool.false_eq_true, if_false] at e
  subst e
  unfold hasCs at h
  simp only [Tryz.underlying9] at h
  obtain ⟨s, e, _⟩ := h
  simp only [List.cons.injEq, and_true] at e
  exact ⟨s, e⟩
theorem arg2 {c : AV} (h : hasT Tryz.prog 6 3 c) : ∃ n, c = .int .i64 n := by
  obtain ⟨cs, e, h⟩ := h
  have ha : isAggT Tryz.prog 3 = false := by kernel_rfl
  simp only [Go.Abs.elemOf, ha, Bool.false_eq_true, if_false] at e
  subst e
  unfold hasCs at h
  simp only [Tryz.underlying3] at h
  obtain ⟨n, e, _⟩ := h
  simp only [List.cons.injEq, and_true] at e
  exact ⟨n, e⟩
theorem shardNil_lifted (os : Os) (started : os.Started) (H : Type) (enc : TypeId × Value → H) :
    ReturnsInHanded {} Tryz.checked os 7 .any (Rows.shardNilSpec.pre6 enc Tryz.prog Tryz.f7 Rows.shardNilRow.domain false) (Rows.shardNilSpec.post enc Tryz.prog Tryz.f7 false true false false) := by
  refine law_lifted hm howOk 6 os started own (by kernel_rfl) Tryz.func7 laidOut shape rfl ?_ ?_ ?_
  · intro H ds h
    match ds, h with
    | [d0, d1, d2], _ => rfl
  · exact ChangeSpec.witness6 (enc := enc) (C := Tryz.checked) false ⟨#[], #[.agg #[.int .i64 0, .int .u64 0, .bool false, .slice none 0 0, .slice none 0 0], .string ⟨#[]⟩, .int .i64 0], []⟩ 8 (by kernel_rfl) (by kernel_rfl) (by kernel_rfl) (by kernel_rfl)
  · intro cs h
    rw [show Tryz.f7.params.toList = [29, 9, 3] by rw [Tryz.params7]] at h
    obtain ⟨c0, q0, rfl, k0, h⟩ := h
    obtain ⟨c1, q1, rfl, k1, h⟩ := h
    obtain ⟨c2, q2, rfl, k2, h⟩ := h
    subst h
    obtain ⟨n1, n2, bb, x1, x2, r1, r2, rfl⟩ := arg0 k0
    obtain ⟨b1, rfl⟩ := arg1 k1
    obtain ⟨n3, rfl⟩ := arg2 k2
    obtain ⟨σ', e⟩ := f7_ok n1 n2 n3 bb x1 x2 b1 r1 r2
    obtain ⟨m, e⟩ := callW_inv e
    exact ⟨m, _, e⟩
theorem shardNil_holds : Rows.ShardNilSaid :=
  OpenClaim.holds_of_wide 7 Tryz.f7 rfl rfl rfl rfl rfl rfl rfl ⟨rfl, rfl, rfl, rfl, rfl⟩ rfl rfl rfl rfl rfl (by kernel_rfl) Tryz.func7 (by kernel_rfl)
    (of_decide_eq_true (by kernel_rfl)) (by unfold Func.isWrapper; first | (rw [if_pos (by decide +kernel)]; kernel_rfl) | (rw [if_neg (by decide +kernel)]; exact ⟨rfl, rfl⟩))
    (fun os started H enc _ => shardNil_lifted os started H enc)
#print axioms shardNil_holds
end Go.Proofs.YteanbldkbfdniaaGreat
