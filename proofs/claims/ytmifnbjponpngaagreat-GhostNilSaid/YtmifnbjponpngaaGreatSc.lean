/- It is proved that a history that is not there has nothing, for every event; there is no condition. -/
import Derived.Test.YtmifnbjponpngaaGreatAbs41
import Derived.Test.YtmifnbjponpngaaGreatRows
open Go Go.Abs Go.Proofs
set_option maxRecDepth 100000
set_option maxHeartbeats 4000000
set_option linter.unusedSimpArgs false
set_option linter.unusedVariables false
namespace Go.Proofs.YtmifnbjponpngaaGreat
def bodyTab : List (Nat × Flags) := [(5, {}), (6, { esc := [6, 8], tails := [2000006] }), (8, {}), (9, {}), (11, {}), (15, {}), (16, { tails := [2000002] }), (17, { tails := [2000004] }), (18, { tails := [2000006, 2000007] }), (19, { tails := [2000005, 2000010, 2000011] }), (20, { esc := [15] }), (21, { keep := true }), (22, { tails := [2000001] }), (31, { tails := [2000007] }), (36, {}), (37, { tails := [2000001] }), (38, {}), (39, {}), (40, {}), (41, {}), (42, {}), (43, { tails := [2000002, 2000006] }), (44, { esc := [1, 3] }), (45, { esc := [2] }), (46, { esc := [1, 3] }), (47, {}), (48, {}), (56, {}), (57, {}), (58, {}), (59, { tails := [2000001, 2000005, 2000006, 2000010, 2000011, 2000013, 2000014, 2000015] }), (60, { tails := [2000004, 2000006, 2000007] }), (61, { tails := [2000003, 2000004] }), (65, {}), (66, {}), (67, {}), (68, {}), (69, {}), (70, {}), (71, { tails := [2000003] }), (72, {}), (73, {}), (74, { tails := [2000003] }), (75, {}), (76, {}), (77, { tails := [2000009] }), (78, { tails := [2000003] }), (79, { tails := [2000001] }), (80, {}), (81, {}), (82, { tails := [2000005] }), (83, {}), (84, {}), (90, { esc := [6] }), (91, {}), (92, {}), (93, {}), (94, {}), (95, {}), (96, {}), (97, {}), (98, {}), (99, {}), (100, { tails := [2000001] }), (101, {}), (102, {}), (103, { tails := [2000001] }), (104, { tails := [2000007] }), (105, {}), (106, {}), (107, {}), (108, {}), (109, {}), (110, {}), (111, {}), (112, {}), (126, {}), (127, {}), (128, {}), (129, {}), (130, {}), (131, {}), (132, {}), (133, {}), (134, {}), (135, {}), (136, {}), (137, {}), (138, {}), (139, {}), (140, {}), (148, {}), (149, {}), (150, { keep := true }), (151, {}), (152, {}), (155, {})]
def bodyHow (f : FuncId) : Option How := (bodyTab.find? fun p => p.1 == f).map fun p => How.body p.2
def how : FuncId → Option How := fun f => bodyHow f
/-- What a function's text asks of the interpreter. -/
def fnOk (P : Program) (how : FuncId → Option How) (f : Nat) : Bool :=
  match how f with
  | some (.body fl) => match P.funcs[f]? with
    | some fn => match fn.body with
      | some c => codeOk P fl.tails c && !(fn.name == "runtime.NumGoroutine")
      | none => true
    | none => true
  | _ => true
theorem fnOk_body {P : Program} {how : FuncId → Option How} {f : Nat} (h : fnOk P how f = true) {fl : Flags} {fn : Func} {c : Code} (h1 : how f = some (.body fl)) (h2 : P.funcs[f]? = some fn) (h3 : fn.body = some c) : codeOk P fl.tails c = true ∧ (fn.name == "runtime.NumGoroutine") = false := by
  unfold fnOk at h
  rw [h1] at h
  simp only [h2, h3] at h
  simpa using h
theorem allOk : ∀ f, f < 156 → fnOk Tryz.prog bodyHow f = true := by
  have h : (List.range 156).all (fnOk Tryz.prog bodyHow) = true := by kernel_rfl
  intro f hf
  exact List.all_eq_true.1 h f (List.mem_range.2 hf)
theorem tabLow : (bodyTab.all fun p => decide (p.1 < 156)) = true := by decide
theorem bodyHow_low {f : FuncId} {x : How} (h : bodyHow f = some x) : f < 156 := by
  unfold bodyHow at h
  obtain ⟨p, hp, _⟩ := Option.map_eq_some_iff.1 h
  have h1 := List.all_eq_true.1 tabLow p (List.mem_of_find?_eq_some hp)
  have h2 := List.find?_some hp
  simp only [beq_iff_eq] at h2
  rw [← h2]
  simpa using h1
theorem bodyHow_body {f : FuncId} {p : List AV → AS → Option Nat → Option (AV × AS)} : bodyHow f ≠ some (.prim p) := by
  unfold bodyHow
  intro h
  obtain ⟨p, _, h1⟩ := Option.map_eq_some_iff.1 h
  cases h1
theorem howOk : HowOk Tryz.prog how := {
  body := by
    intro f fl fn c h1 h2 h3
    unfold how at h1
    exact fnOk_body (allOk f (bodyHow_low h1)) h1 h2 h3
  prim := by
    intro f p h
    unfold how at h
    exact absurd h bodyHow_body }
theorem hm : Tryz.prog.follows .mixedOrders = true := by kernel_rfl
def isSl (x : AV) : Prop := x = .nils ∨ ∃ sz es, x = .sl false sz es
theorem isSl_of {cs : List AV} {sz : Nat} {Q : AV → Prop} (h : cs = [.nils] ∨ ∃ es, cs = [.sl false sz es] ∧ es.length ≤ maxLen ∧ ∀ x ∈ es, Q x) : ∃ x, cs = [x] ∧ isSl x := by
  rcases h with h | ⟨es, h, _⟩
  · exact ⟨_, h, .inl rfl⟩
  · exact ⟨_, h, .inr ⟨sz, es, rfl⟩⟩
theorem arg0 {c : AV} (h : hasT Tryz.prog 8 36 c) : ∃ (n25 : Int) (n32 : Int) (n33 : Int) (n49 : Int) (s50 : ByteArray) (s51 : ByteArray) (x52 : AV) (x54 : AV) (n56 : Int) (x57 : AV) (n59 : Int) (n60 : Int) (n61 : Int), isSl x52 ∧ isSl x54 ∧ isSl x57 ∧ c = .agg [.int .i64 n25, .int .i64 n32, .int .u64 n33, .int .i64 n49, .str s50, .str s51, x52, x54, .int .i64 n56, x57, .int .i64 n59, .int .i64 n60, .int .u64 n61] := by
  obtain ⟨cs, e, h⟩ := h
  have ha : isAggT Tryz.prog 36 = true := by kernel_rfl
  simp only [Go.Abs.elemOf, ha, if_true] at e
  subst e
  unfold hasCs at h
  simp only [Tryz.underlying36, hasFs] at h
  obtain ⟨x1, y2, rfl, h3, x4, y5, rfl, h6, x7, y8, rfl, h9, x10, y11, rfl, h12, x13, y14, rfl, h15, x16, y17, rfl, h18, x19, y20, rfl, h21, x22, y23, rfl, h24, rfl⟩ := h
  unfold hasCs at h3
  simp only [Tryz.underlying3] at h3
  obtain ⟨n25, rfl, _⟩ := h3
  unfold hasCs at h6
  simp only [Tryz.underlying29, hasFs] at h6
  obtain ⟨x26, y27, rfl, h28, x29, y30, rfl, h31, rfl⟩ := h6
  unfold hasCs at h28
  simp only [Tryz.underlying3] at h28
  obtain ⟨n32, rfl, _⟩ := h28
  unfold hasCs at h31
  simp only [Tryz.underlying27] at h31
  obtain ⟨n33, rfl, _⟩ := h31
  unfold hasCs at h9
  simp only [Tryz.underlying33, hasFs] at h9
  obtain ⟨x34, y35, rfl, h36, x37, y38, rfl, h39, x40, y41, rfl, h42, x43, y44, rfl, h45, x46, y47, rfl, h48, rfl⟩ := h9
  unfold hasCs at h36
  simp only [Tryz.underlying3] at h36
  obtain ⟨n49, rfl, _⟩ := h36
  unfold hasCs at h39
  simp only [Tryz.underlying9] at h39
  obtain ⟨s50, rfl, _⟩ := h39
  unfold hasCs at h42
  simp only [Tryz.underlying9] at h42
  obtain ⟨s51, rfl, _⟩ := h42
  unfold hasCs at h45
  simp only [Tryz.underlying30] at h45
  obtain ⟨x52, rfl, g53⟩ := isSl_of h45
  unfold hasCs at h48
  simp only [Tryz.underlying31] at h48
  obtain ⟨x54, rfl, g55⟩ := isSl_of h48
  unfold hasCs at h12
  simp only [Tryz.underlying3] at h12
  obtain ⟨n56, rfl, _⟩ := h12
  unfold hasCs at h15
  simp only [Tryz.underlying34] at h15
  obtain ⟨x57, rfl, g58⟩ := isSl_of h15
  unfold hasCs at h18
  simp only [Tryz.underlying3] at h18
  obtain ⟨n59, rfl, _⟩ := h18
  unfold hasCs at h21
  simp only [Tryz.underlying3] at h21
  obtain ⟨n60, rfl, _⟩ := h21
  unfold hasCs at h24
  simp only [Tryz.underlying27] at h24
  obtain ⟨n61, rfl, _⟩ := h24
  exact ⟨n25, n32, n33, n49, s50, s51, x52, x54, n56, x57, n59, n60, n61, g53, g55, g58, rfl⟩
theorem run0 (n25 : Int) (n32 : Int) (n33 : Int) (n49 : Int) (s50 : ByteArray) (s51 : ByteArray) (x52 : AV) (x54 : AV) (n56 : Int) (x57 : AV) (n59 : Int) (n60 : Int) (n61 : Int) : ((callN Tryz.prog how 40 5 [.agg [.int .i64 n25, .int .i64 n32, .int .u64 n33, .int .i64 n49, .str s50, .str s51, x52, x54, .int .i64 n56, x57, .int .i64 n59, .int .i64 n60, .int .u64 n61]] ⟨[], []⟩ none).map fun x => x.1) = some (.bool true) := by kernel_rfl
open Go.ChangeShapes Go.WideShapes Go.ChangeAt Go.RowKit
theorem own : ownKnob Tryz.prog.godebug = none := by kernel_rfl
theorem laidOut : laidOutB Tryz.prog = true := by kernel_rfl
theorem shape : shapeOk Tryz.prog 8 Tryz.f5 = true := by kernel_rfl
theorem ghostNil_lifted (os : Os) (started : os.Started) (H : Type) (enc : TypeId × Value → H) :
    ReturnsInHanded {} Tryz.checked os 5 .any (Rows.ghostNilSpec.pre6 enc Tryz.prog Tryz.f5 Rows.ghostNilRow.domain false) (Rows.ghostNilSpec.post enc Tryz.prog Tryz.f5 false true false false) := by
  refine law_lifted hm howOk 8 os started own (by kernel_rfl) Tryz.func5 laidOut shape rfl ?_ ?_ ?_
  · intro H ds h
    match ds, h with
    | [d0], _ => rfl
  · exact ChangeSpec.witness6 (enc := enc) (C := Tryz.checked) false ⟨#[], #[.agg #[.int .i64 0, .int .i64 0, .int .u64 0, .int .i64 0, .string ⟨#[]⟩, .string ⟨#[]⟩, .slice none 0 0, .slice none 0 0, .int .i64 0, .slice none 0 0, .int .i64 0, .int .i64 0, .int .u64 0]], []⟩ 8 (by kernel_rfl) (by kernel_rfl) (by kernel_rfl) (by kernel_rfl)
  · intro cs h
    rw [show Tryz.f5.params.toList = [36] by rw [Tryz.params5]] at h
    obtain ⟨c0, r0, rfl, k0, h⟩ := h
    obtain ⟨n25, n32, n33, n49, s50, s51, x52, x54, n56, x57, n59, n60, n61, ix52, ix54, ix57, rfl⟩ := arg0 k0
    subst h
    have e := run0 n25 n32 n33 n49 s50 s51 x52 x54 n56 x57 n59 n60 n61
    obtain ⟨⟨v, σ1⟩, e1, e2⟩ := Option.map_eq_some_iff.1 e
    cases e2
    exact ⟨40, _, e1⟩
theorem ghostNil_holds : Rows.GhostNilSaid :=
  OpenClaim.holds_of_wide 5 Tryz.f5 rfl rfl rfl rfl rfl rfl rfl ⟨rfl, rfl, rfl, rfl, rfl⟩ rfl rfl rfl rfl rfl (by kernel_rfl) Tryz.func5 (by kernel_rfl)
    (of_decide_eq_true (by kernel_rfl)) (by unfold Func.isWrapper; first | (rw [if_pos (by decide +kernel)]; kernel_rfl) | (rw [if_neg (by decide +kernel)]; exact ⟨rfl, rfl⟩))
    (fun os started H enc _ => ghostNil_lifted os started H enc)
#print axioms ghostNil_holds
end Go.Proofs.YtmifnbjponpngaaGreat
