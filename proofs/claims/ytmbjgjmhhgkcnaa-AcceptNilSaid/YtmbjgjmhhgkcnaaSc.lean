/- It is proved that an acceptor that is not there has nothing, for every vote; there is no condition. -/
import Derived.Test.YtmbjgjmhhgkcnaaSb
import Derived.Test.YtmbjgjmhhgkcnaaRows
open Go Go.Abs Go.Proofs
set_option maxRecDepth 100000
set_option maxHeartbeats 4000000
set_option linter.unusedSimpArgs false
set_option linter.unusedVariables false
namespace Go.Proofs.Ytmbjgjmhhgkcnaa
def how : FuncId → Option How := fun f => if f = 26 then some (.prim (sortedA kindI 30)) else if f = 27 then some (.body { esc := [1] }) else if f = 7 then some (.body { esc := [1, 3] }) else if f = 9 then some (.body { tails := [2000007] }) else if f < 34 then some (.body {}) else none
/-- What a function's text asks of the interpreter. -/
def fnOk (P : Program) (how : FuncId → Option How) (f : Nat) : Bool :=
  match how f with
  | some (.body fl) => match P.funcs[f]? with
    | some fn => match fn.body with
      | some c => codeOk P fl.tails c && !(fn.name == "runtime.NumGoroutine")
      | none => true
    | none => true
  | _ => true
theorem fnOk_body {P : Program} {how : FuncId → Option How} {f : Nat} (h : fnOk P how f = true) {fl : Flags} {fn : Func} {c : Code} (h1 : how f = some (.body fl)) (h2 : P.funcs[f]? = some fn) (h3 : fn.body = some c) : codeOk P fl.tails c = true ∧ (fn.name == "runtime.NumGoroutine") = false := by
  unfold fnOk at h
  rw [h1] at h
  simp only [h2, h3] at h
  simpa using h
theorem allOk : ∀ f, f < 34 → fnOk Try.prog how f = true := by
  have h : (List.range 34).all (fnOk Try.prog how) = true := by kernel_rfl
  intro f hf
  exact List.all_eq_true.1 h f (List.mem_range.2 hf)
theorem howHigh (f : Nat) (hf : ¬ f < 34) : how f = none := by
  unfold how
  rw [if_neg (fun e => hf (by rw [e]; decide)), if_neg (fun e => hf (by rw [e]; decide)), if_neg (fun e => hf (by rw [e]; decide)), if_neg (fun e => hf (by rw [e]; decide)), if_neg hf]
theorem howOk : HowOk Try.prog how := {
  body := by
    intro f fl fn c h1 h2 h3
    by_cases hf : f < 34
    · exact fnOk_body (allOk f hf) h1 h2 h3
    · rw [howHigh f hf] at h1; cases h1
  prim := by
    intro f p h
    unfold how at h
    repeat' split at h
    all_goals try (cases h; done)
    · rename_i e
      cases h
      rw [e]
      exact sorted_prim (kindI_ok Try.underlying3) Try.sortedCon }
theorem hm : Try.prog.follows .mixedOrders = true := by kernel_rfl
def isSl (x : AV) : Prop := x = .nils ∨ ∃ sz es, x = .sl false sz es
theorem isSl_of {cs : List AV} {sz : Nat} {Q : AV → Prop} (h : cs = [.nils] ∨ ∃ es, cs = [.sl false sz es] ∧ es.length ≤ maxLen ∧ ∀ x ∈ es, Q x) : ∃ x, cs = [x] ∧ isSl x := by
  rcases h with h | ⟨es, h, _⟩
  · exact ⟨_, h, .inl rfl⟩
  · exact ⟨_, h, .inr ⟨sz, es, rfl⟩⟩
theorem arg0 {c : AV} (h : hasT Try.prog 4 27 c) : ∃ (n10 : Int) (n17 : Int) (n18 : Int) (s19 : ByteArray), c = .agg [.int .i64 n10, .int .u64 n17, .int .i64 n18, .str s19] := by
  obtain ⟨cs, e, h⟩ := h
  have ha : isAggT Try.prog 27 = true := by kernel_rfl
  simp only [Go.Abs.elemOf, ha, if_true] at e
  subst e
  unfold hasCs at h
  simp only [Try.underlying27, hasFs] at h
  obtain ⟨x1, y2, rfl, h3, x4, y5, rfl, h6, x7, y8, rfl, h9, rfl⟩ := h
  unfold hasCs at h3
  simp only [Try.underlying3] at h3
  obtain ⟨n10, rfl, _⟩ := h3
  unfold hasCs at h6
  simp only [Try.underlying25, hasFs] at h6
  obtain ⟨x11, y12, rfl, h13, x14, y15, rfl, h16, rfl⟩ := h6
  unfold hasCs at h13
  simp only [Try.underlying23] at h13
  obtain ⟨n17, rfl, _⟩ := h13
  unfold hasCs at h16
  simp only [Try.underlying3] at h16
  obtain ⟨n18, rfl, _⟩ := h16
  unfold hasCs at h9
  simp only [Try.underlying9] at h9
  obtain ⟨s19, rfl, _⟩ := h9
  exact ⟨n10, n17, n18, s19, rfl⟩
theorem arg1 {c : AV} (h : hasT Try.prog 4 3 c) : ∃ (n20 : Int), c = .int .i64 n20 := by
  obtain ⟨cs, e, h⟩ := h
  have ha : isAggT Try.prog 3 = false := by kernel_rfl
  simp only [Go.Abs.elemOf, ha, Bool.false_eq_true, if_false] at e
  subst e
  unfold hasCs at h
  simp only [Try.underlying3] at h
  obtain ⟨n20, e0, _⟩ := h
  simp only [List.cons.injEq, and_true] at e0
  exact ⟨n20, e0⟩
theorem run0 (n10 : Int) (n17 : Int) (n18 : Int) (s19 : ByteArray) (n20 : Int) : ((callN Try.prog how 40 6 [.agg [.int .i64 n10, .int .u64 n17, .int .i64 n18, .str s19], .int .i64 n20] ⟨[], []⟩ none).map fun x => x.1) = some (.bool true) := by kernel_rfl
open Go.ChangeShapes Go.WideShapes Go.ChangeAt Go.RowKit
theorem own : ownKnob Try.prog.godebug = none := by kernel_rfl
theorem laidOut : laidOutB Try.prog = true := by kernel_rfl
theorem shape : shapeOk Try.prog 4 Try.f6 = true := by kernel_rfl
theorem acceptNil_lifted (os : Os) (started : os.Started) (H : Type) (enc : TypeId × Value → H) :
    ReturnsInHanded {} Try.checked os 6 .any (Rows.acceptNilSpec.pre6 enc Try.prog Try.f6 Rows.acceptNilRow.domain false) (Rows.acceptNilSpec.post enc Try.prog Try.f6 false true false false) := by
  refine law_lifted hm howOk 4 os started own (by kernel_rfl) Try.func6 laidOut shape rfl ?_ ?_ ?_
  · intro H ds h
    match ds, h with
    | [d0, d1], _ => rfl
  · exact ChangeSpec.witness6 (enc := enc) (C := Try.checked) false ⟨#[], #[.agg #[.int .i64 0, .int .u64 0, .int .i64 0, .string ⟨#[]⟩], .int .i64 0], []⟩ 8 (by kernel_rfl) (by kernel_rfl) (by kernel_rfl) (by kernel_rfl)
  · intro cs h
    rw [show Try.f6.params.toList = [27, 3] by rw [Try.params6]] at h
    obtain ⟨c0, r0, rfl, k0, h⟩ := h
    obtain ⟨n10, n17, n18, s19, rfl⟩ := arg0 k0
    obtain ⟨c1, r1, rfl, k1, h⟩ := h
    obtain ⟨n20, rfl⟩ := arg1 k1
    subst h
    have e := run0 n10 n17 n18 s19 n20
    obtain ⟨⟨v, σ1⟩, e1, e2⟩ := Option.map_eq_some_iff.1 e
    cases e2
    exact ⟨40, _, e1⟩
theorem acceptNil_holds : Rows.AcceptNilSaid :=
  OpenClaim.holds_of_wide 6 Try.f6 rfl rfl rfl rfl rfl rfl rfl ⟨rfl, rfl, rfl, rfl, rfl⟩ rfl rfl rfl rfl rfl (by kernel_rfl) Try.func6 (by kernel_rfl)
    (of_decide_eq_true (by kernel_rfl)) (by unfold Func.isWrapper; first | (rw [if_pos (by decide +kernel)]; kernel_rfl) | (rw [if_neg (by decide +kernel)]; exact ⟨rfl, rfl⟩))
    (fun os started H enc _ => acceptNil_lifted os started H enc)
#print axioms acceptNil_holds
end Go.Proofs.Ytmbjgjmhhgkcnaa
