/- It is proved that a map that is not there has nothing, for every row; there is no condition. -/
import Derived.Test.YtmpkejckclgbnaaMh
import Derived.Test.YtmpkejckclgbnaaRows
open Go Go.Abs Go.Proofs
set_option maxRecDepth 100000
set_option maxHeartbeats 4000000
set_option linter.unusedSimpArgs false
set_option linter.unusedVariables false
/-- What a function's text asks of the interpreter. -/
def fnOk (P : Program) (how : FuncId → Option How) (f : Nat) : Bool :=
  match how f with
  | some (.body fl) => match P.funcs[f]? with
    | some fn => match fn.body with
      | some c => codeOk P fl.tails c && !(fn.name == "runtime.NumGoroutine")
      | none => true
    | none => true
  | _ => true
theorem fnOk_body {P : Program} {how : FuncId → Option How} {f : Nat} (h : fnOk P how f = true) {fl : Flags} {fn : Func} {c : Code} (h1 : how f = some (.body fl)) (h2 : P.funcs[f]? = some fn) (h3 : fn.body = some c) : codeOk P fl.tails c = true ∧ (fn.name == "runtime.NumGoroutine") = false := by
  unfold fnOk at h
  rw [h1] at h
  simp only [h2, h3] at h
  simpa using h
theorem howHigh (f : Nat) (hf : ¬ f < 48) : how f = none := by
  unfold how
  rw [if_neg (fun e => hf (by rw [e]; decide)), if_neg (fun e => hf (by rw [e]; decide)), if_neg (fun e => hf (by rw [e]; decide)), if_neg (fun e => hf (by rw [e]; decide)), if_neg hf]
theorem howPrim (f : Nat) (p) : how f ≠ some (.prim p) := by
  unfold how
  repeat' split
  all_goals (intro h; cases h)
theorem all48 : ∀ f, f < 48 → fnOk Try.prog how f = true := by
  have h : (List.range 48).all (fnOk Try.prog how) = true := by kernel_rfl
  intro f hf
  exact List.all_eq_true.1 h f (List.mem_range.2 hf)
theorem howOk : HowOk Try.prog how := {
  body := by
    intro f fl fn c h1 h2 h3
    by_cases hf : f < 48
    · exact fnOk_body (all48 f hf) h1 h2 h3
    · rw [howHigh f hf] at h1; cases h1
  prim := by
    intro f p h
    exact absurd h (howPrim f p) }
theorem hm : Try.prog.follows .mixedOrders = true := by kernel_rfl
theorem rd_of {cs : List AV} (h : hasCs Try.prog 5 25 cs) : ∃ x, cs = [x] ∧ isRd x := by
  simp only [hasCs, Try.underlying25] at h
  rcases h with rfl | ⟨es, rfl, hl, he⟩
  · exact ⟨_, rfl, .inl rfl⟩
  · refine ⟨_, rfl, .inr ⟨es, rfl, hl, fun x hx => ?_⟩⟩
    obtain ⟨_, xs, e, hc⟩ := he x hx
    simp only [hasCs, Try.underlying67, hasFs, Try.underlying9, Try.underlying22] at hc
    obtain ⟨ys, zs, rfl, ⟨s, rfl, _⟩, ys2, zs2, rfl, ⟨i, rfl, _⟩, rfl⟩ := hc
    have ha : isAggT Try.prog 67 = true := by kernel_rfl
    simp only [Go.Abs.elemOf, ha, if_true] at e
    exact ⟨s, i, e⟩
theorem wr_of {cs : List AV} (h : hasCs Try.prog 5 26 cs) : ∃ x, cs = [x] ∧ isWr x := by
  simp only [hasCs, Try.underlying26] at h
  rcases h with rfl | ⟨es, rfl, hl, he⟩
  · exact ⟨_, rfl, .inl rfl⟩
  · refine ⟨_, rfl, .inr ⟨es, rfl, hl, fun x hx => ?_⟩⟩
    obtain ⟨_, xs, e, hc⟩ := he x hx
    simp only [hasCs, Try.underlying88, hasFs, Try.underlying9, Try.underlying4] at hc
    obtain ⟨ys, zs, rfl, ⟨s, rfl, _⟩, ys2, zs2, rfl, ⟨i, rfl, _⟩, ys3, zs3, rfl, ⟨b, rfl⟩, rfl⟩ := hc
    have ha : isAggT Try.prog 88 = true := by kernel_rfl
    simp only [Go.Abs.elemOf, ha, if_true] at e
    exact ⟨s, i, b, e⟩
theorem row_of {c : AV} (h : hasT Try.prog 7 33 c) : ∃ (k a1 a2 c1 c2 c3 c4 b1 b2 n rc num : Int) (key val rv : ByteArray) (rd wr : AV), isRd rd ∧ isWr wr ∧ c = .agg [.int .i64 a1, .int .u64 a2, .int .i64 k, .str key, .str val, rd, wr, .int .i64 c1, .int .i64 c2, .int .i64 c3, .int .i64 c4, .int .i64 b1, .int .u64 b2, .int .i64 n, .int .i64 rc, .str rv, .int .u64 num] := by
  obtain ⟨cs, e, h⟩ := h
  have ha : isAggT Try.prog 33 = true := by kernel_rfl
  simp only [Go.Abs.elemOf, ha, if_true] at e
  subst e
  unfold hasCs at h
  simp only [Try.underlying33, hasFs] at h
  obtain ⟨x1, y1, rfl, h1, x2, y2, rfl, h2, x3, y3, rfl, h3, x4, y4, rfl, h4, x5, y5, rfl, h5, x6, y6, rfl, h6, x7, y7, rfl, h7, rfl⟩ := h
  unfold hasCs at h1 h2 h3 h4 h5 h6 h7
  simp only [Try.underlying24, Try.underlying28, Try.underlying3, Try.underlying29, Try.underlying31, hasFs] at h1 h2 h3 h4 h5 h6 h7
  obtain ⟨xa, ya, rfl, g1, xb, yb, rfl, g2, rfl⟩ := h1
  obtain ⟨xc, yc, rfl, g3, xd, yd, rfl, g4, xe, ye, rfl, g5, xf, yf, rfl, g6, xg, yg, rfl, g7, rfl⟩ := h2
  obtain ⟨i3, rfl, _⟩ := h3
  obtain ⟨i4, rfl, _⟩ := h4
  obtain ⟨i5, rfl, _⟩ := h5
  obtain ⟨i6, rfl, _⟩ := h6
  obtain ⟨xh, yh, rfl, g8, xi, yi, rfl, g9, xj, yj, rfl, ga, xk, yk, rfl, gb, xl, yl, rfl, gc, rfl⟩ := h7
  obtain ⟨rd, rfl, r1⟩ := rd_of g6
  obtain ⟨wr, rfl, r2⟩ := wr_of g7
  unfold hasCs at g1 g2 g3 g4 g5 g8 g9 ga gb gc
  simp only [Try.underlying24, Try.underlying9, Try.underlying3, Try.underlying22, Try.underlying29, hasFs] at g1 g2 g3 g4 g5 g8 g9 ga gb gc
  obtain ⟨i1, rfl, _⟩ := g1
  obtain ⟨i2, rfl, _⟩ := g2
  obtain ⟨k, rfl, _⟩ := g3
  obtain ⟨key, rfl, _⟩ := g4
  obtain ⟨val, rfl, _⟩ := g5
  obtain ⟨xm, ym, rfl, gd, xn, yn, rfl, ge, rfl⟩ := g8
  obtain ⟨n, rfl, _⟩ := g9
  obtain ⟨rc, rfl, _⟩ := ga
  obtain ⟨rv, rfl, _⟩ := gb
  obtain ⟨num, rfl, _⟩ := gc
  unfold hasCs at gd ge
  simp only [Try.underlying3, Try.underlying22] at gd ge
  obtain ⟨b1, rfl, _⟩ := gd
  obtain ⟨b2, rfl, _⟩ := ge
  exact ⟨k, i1, i2, i3, i4, i5, i6, b1, b2, n, rc, num, key, val, rv, rd, wr, r1, r2, rfl⟩
namespace Go.Proofs.Ytmpkejckclgbnaa
open Go.ChangeShapes Go.WideShapes Go.ChangeAt Go.RowKit
theorem own : ownKnob Try.prog.godebug = none := by kernel_rfl
theorem laidOut : laidOutB Try.prog = true := by kernel_rfl
theorem shape : shapeOk Try.prog 7 Try.f3 = true := by kernel_rfl
theorem modelNil_lifted (os : Os) (started : os.Started) (H : Type) (enc : TypeId × Value → H) :
    ReturnsInHanded {} Try.checked os 3 .any (Rows.modelNilSpec.pre6 enc Try.prog Try.f3 Rows.modelNilRow.domain false) (Rows.modelNilSpec.post enc Try.prog Try.f3 false true false false) := by
  refine law_lifted hm howOk 7 os started own (by kernel_rfl) Try.func3 laidOut shape rfl ?_ ?_ ?_
  · intro H ds h
    match ds, h with
    | [d], _ => rfl
  · exact ChangeSpec.witness6 (enc := enc) (C := Try.checked) false ⟨#[], #[.agg #[.int .i64 0, .int .u64 0, .int .i64 0, .string ⟨#[]⟩, .string ⟨#[]⟩, .slice none 0 0, .slice none 0 0, .int .i64 0, .int .i64 0, .int .i64 0, .int .i64 0, .int .i64 0, .int .u64 0, .int .i64 0, .int .i64 0, .string ⟨#[]⟩, .int .u64 0]], []⟩ 8 (by kernel_rfl) (by kernel_rfl) (by kernel_rfl) (by kernel_rfl)
  · intro cs h
    rw [show Try.f3.params.toList = [33] by rw [Try.params3]] at h
    obtain ⟨c, cs', rfl, h1, rfl⟩ := h
    obtain ⟨k, a1, a2, c1, c2, c3, c4, b1, b2, n, rc, num, key, val, rv, rd, wr, r1, r2, rfl⟩ := row_of h1
    obtain ⟨H', e⟩ := f3_ok k a1 a2 c1 c2 c3 c4 b1 b2 n rc num key val rv rd wr r1 r2
    obtain ⟨m, e⟩ := callW_inv e
    exact ⟨m, _, e⟩
theorem modelNil_holds : Rows.ModelNilSaid :=
  OpenClaim.holds_of_wide 3 Try.f3 rfl rfl rfl rfl rfl rfl rfl ⟨rfl, rfl, rfl, rfl, rfl⟩ rfl rfl rfl rfl rfl (by kernel_rfl) Try.func3 (by kernel_rfl)
    (of_decide_eq_true (by kernel_rfl)) (by unfold Func.isWrapper; first | (rw [if_pos (by decide +kernel)]; kernel_rfl) | (rw [if_neg (by decide +kernel)]; exact ⟨rfl, rfl⟩))
    (fun os started H enc _ => modelNil_lifted os started H enc)
#print axioms modelNil_holds
end Go.Proofs.Ytmpkejckclgbnaa
