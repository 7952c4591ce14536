/- Part 14 of the abstract interpreter: its operations and what they say of a world, for any program and any world. -/
import Derived.Test.YthikbholekngfaaGreatDoorAbs13
set_option linter.unusedVariables false
set_option linter.unusedSimpArgs false
section
/-! A function without arguments that was run from the empty state: its answer is the same in every state. -/
open Go Go.Proofs
set_option linter.unusedSimpArgs false
set_option linter.unusedVariables false
namespace Go.Abs
/-- The answer of a function without arguments, by its run from the empty state. -/
def promE (run : List AV → AS → Option Nat → Option (AV × AS)) (args : List AV) (σ : AS) (ro : Option Nat) : Option (AV × AS) :=
  match args, run [] ⟨[], []⟩ none with
  | [], some (.bool b, _) => some (.bool b, σ)
  | _, _ => none
theorem promE_inv {run : List AV → AS → Option Nat → Option (AV × AS)} {args : List AV} {σ : AS} {ro : Option Nat} {v : AV} {σ' : AS} (h : promE run args σ ro = some (v, σ')) :
    args = [] ∧ σ' = σ ∧ ∃ b σ1, v = .bool b ∧ run [] ⟨[], []⟩ none = some (.bool b, σ1) := by
  unfold promE at h
  split at h
  · rename_i b σ1 hr
    cases h
    exact ⟨rfl, rfl, b, σ1, rfl, hr⟩
  · cases h
theorem promE_eq {run : List AV → AS → Option Nat → Option (AV × AS)} {σ σ1 : AS} {ro : Option Nat} {b : Bool} (h : run [] ⟨[], []⟩ none = some (.bool b, σ1)) : promE run [] σ ro = some (.bool b, σ) := by
  unfold promE
  rw [h]
theorem promE_ok {P : Program} {how : FuncId → Option How} (hm : P.follows .mixedOrders = true) (hw : HowOk P how) {f : FuncId} (hent : ∃ fn, P.funcs[f]? = some fn ∧ fn.body.isSome = true ∧ (fn.name == "runtime.NumGoroutine") = false) : PrimOk P f (promE (callW P how f)) := {
  ent := hent
  snd := by
    intro args σ ro v σ' h ρ w us s hv
    obtain ⟨rfl, rfl, b, σ1, rfl, h1⟩ := promE_inv h
    obtain ⟨n, h1⟩ := callW_inv h1
    have ok := callN_ok hm hw n
    have s0 : SR ⟨fun _ => none, fun _ => False⟩ ⟨[], []⟩ w := {
      objD := fun L ob hg _ => by cases L <;> simp [AS.get] at hg
      dom := fun L p hp => by cases hp
      inj := fun L L' p p' hp => by cases hp
      lt := fun L p hp => by cases hp
      hin := fun i cs hg => by simp [AS.get] at hg
      nres := fun L p hp => by cases hp
      resl := fun b hb => hb.elim
      glb := fun x hx => ⟨(s.glb x hx).1, ⟨fun L p hp => (by cases hp), fun h => h⟩, (s.glb x hx).2.2⟩ }
    have F0 : ∀ b, Free ⟨fun _ => none, fun _ => False⟩ b := fun b => ⟨fun L p hp => (by cases hp), fun h => h⟩
    have hv0 : VRs ⟨fun _ => none, fun _ => False⟩ w [] us := ⟨hv.1, fun i c v hc _ => by simp at hc⟩
    refine (ok.snd f [] ⟨[], []⟩ none (.bool b) σ1 h1 _ w us s0 hv0).mono fun e w' ⟨ρ', u, he, x, s', hu⟩ => ?_
    have hh : ∀ b, b < w.heap.size → w'.heap[b]? = w.heap[b]? := fun b hb => (x.free b hb (F0 b)).2
    have X : Ext ρ w ρ w' := ⟨fun _ p h => ⟨p, h, rfl, Nat.le_refl _, fun _ => ⟨rfl, rfl, rfl, rfl⟩, fun _ => rfl⟩, fun b hb hf => ⟨hf, hh b hb⟩, ⟨rfl, fun b hb _ => hh b hb⟩, x.size, x.os, x.tape, x.output⟩
    refine ⟨ρ, u, he, X, ?_, ?_⟩
    · exact {
        objD := fun L ob hg hd => by
          obtain ⟨p, hp, ho⟩ := s.objD L ob hg hd
          exact ⟨p, hp, OR.mono X (fun hl => hh _ (s.lt L p hp hl)) ho⟩
        dom := s.dom
        inj := s.inj
        lt := fun L p hp hl => Nat.lt_of_lt_of_le (s.lt L p hp hl) x.size
        hin := s.hin
        nres := s.nres
        resl := fun b hb => Nat.lt_of_lt_of_le (s.resl b hb) x.size
        glb := X.glb s }
    · cases hu
      exact .bool b
  beh := by
    intro args σ ro v σ' h
    obtain ⟨_, rfl, _⟩ := promE_inv h
    exact Beh.refl _ _ _ }
end Go.Abs
end
section
/-! A function that reads, and makes what nobody sees: as a prim. -/
open Go Go.Proofs Go.RowKit
namespace Go.Abs
theorem prim_below {P : Program} {f : FuncId} {p : List AV → AS → Option Nat → Option (AV × AS)} (hent : ∃ fn, P.funcs[f]? = some fn ∧ fn.body.isSome = true ∧ (fn.name == "runtime.NumGoroutine") = false)
    (h : ∀ args σ ro v σ', p args σ ro = some (v, σ') → σ' = σ ∧ ∀ ρ w us, SR ρ σ w → VRs ρ w args us → Calls P f us.toArray w fun e w' => ∃ u, e = .returned u ∧ Below w.heap.size w w' ∧ VR ρ w' v u) : PrimOk P f p := {
  ent := hent
  snd := by
    intro args σ ro v σ' hp ρ w us s hv
    obtain ⟨rfl, hc⟩ := h args σ ro v σ' hp
    exact (hc ρ w us s hv).mono fun e w' ⟨u, he, hb, hu⟩ => ⟨ρ, u, he, Ext.below hb s, SR.below hb s, hu⟩
  beh := by
    intro args σ ro v σ' hp
    obtain ⟨rfl, _⟩ := h args σ ro v σ' hp
    exact Beh.refl _ _ _ }
/-- The number of an error: none, or one with a place that wraps a number. F: the error's type, E: the number's. -/
def codeP (F E : TypeId) (args : List AV) (σ : AS) (_ : Option Nat) : Option (AV × AS) :=
  match args with
  | [.nili] => some (.int .i64 0, σ)
  | [.iface t (.ptr L 0)] => if t = F then
      match σ.get L with
      | some (.cells [_, .iface e (.int .i64 k)]) => if e = E then some (.int .i64 k, σ) else none
      | _ => none
    else none
  | _ => none
theorem codeP_inv {F E : TypeId} {args : List AV} {σ : AS} {ro : Option Nat} {v : AV} {σ' : AS} (h : codeP F E args σ ro = some (v, σ')) :
    σ' = σ ∧ ((args = [.nili] ∧ v = .int .i64 0) ∨ ∃ L x k, args = [.iface F (.ptr L 0)] ∧ σ.get L = some (.cells [x, .iface E (.int .i64 k)]) ∧ v = .int .i64 k) := by
  unfold codeP at h
  split at h
  · cases h
    exact ⟨rfl, .inl ⟨rfl, rfl⟩⟩
  · rename_i t L
    split at h
    · rename_i ht
      subst ht
      split at h
      · rename_i x e k hg
        split at h
        · rename_i he
          subst he
          cases h
          exact ⟨rfl, .inr ⟨L, x, k, rfl, hg, rfl⟩⟩
        · cases h
      · cases h
    · cases h
  · cases h
theorem codeP_ok {P : Program} {f : FuncId} {F E : TypeId} (hent : ∃ fn, P.funcs[f]? = some fn ∧ fn.body.isSome = true ∧ (fn.name == "runtime.NumGoroutine") = false)
    (h0 : ∀ w, Calls P f #[.nilIface] w fun e w' => e = .returned (.int .i64 0) ∧ Below w.heap.size w w')
    (h1 : ∀ (w : World) (b : Nat) (k : Int), (∀ x ∈ glbCells, w.cell? ⟨x.1, 0, none⟩ = some x.2 ∧ x.1 < w.heap.size) → b < w.heap.size → w.cell? ⟨b, 1, none⟩ = some (.iface E (.int .i64 k)) → Calls P f #[.iface F (.pointer (some ⟨b, 0, none⟩))] w fun e w' => e = .returned (.int .i64 k) ∧ Below w.heap.size w w') : PrimOk P f (codeP F E) := by
  refine prim_below hent fun args σ ro v σ' hp => ?_
  obtain ⟨rfl, hc⟩ := codeP_inv hp
  refine ⟨rfl, fun ρ w us s hv => ?_⟩
  obtain ⟨hl, hv⟩ := hv
  rcases hc with ⟨rfl, rfl⟩ | ⟨L, x, k, rfl, hg, rfl⟩
  · match us, hl with
    | [u], _ =>
      have := hv 0 _ _ rfl rfl
      cases this
      exact (h0 w).mono fun e w' ⟨he, hb⟩ => ⟨_, he, hb, .int _ _⟩
  · match us, hl with
    | [u], _ =>
      have hu := hv 0 _ _ rfl rfl
      cases hu with
      | iface _ _ v hx =>
        cases hx with
        | ptr _ _ p' hp' hr' =>
          obtain ⟨q, hq, hlive, _, vs, E', hw, hlen, hvs⟩ := s.obj L _ hg
          have : q = p' := Option.some.inj (hq.symm.trans hp')
          subst this
          have hlt := s.lt L q hq hlive
          have h1' : ∃ u, vs[1]? = some u := ⟨_, Array.getElem?_eq_getElem (by rw [← hlen]; exact (by decide : 1 < 2))⟩
          obtain ⟨u, hu1⟩ := h1'
          have := hvs 1 _ _ rfl hu1
          cases this with
          | iface _ _ u2 hx2 =>
            cases hx2
            refine (h1 w q.b k (fun x hx => ⟨(s.glb x hx).2.2, (s.glb x hx).1⟩) hlt ?_).mono fun e w' ⟨he, hb⟩ => ⟨_, he, hb, .int _ _⟩
            simp [World.cell?, hw, hu1]
end Go.Abs
end
section
/-! Runs that are known: a prim that answers by a table. -/
open Go Go.Proofs
set_option linter.unusedSimpArgs false
set_option linter.unusedVariables false
namespace Go.Abs
mutual
def AV.same : AV → AV → Bool
  | .bool a, .bool b => a == b
  | .int k n, .int l m => decide (k = l) && decide (n = m)
  | .str a, .str b => beqS a b
  | .nilp, .nilp => true
  | .ptr L o, .ptr M q => decide (L = M) && decide (o = q)
  | .rptr cs o, .rptr ds q => AVs.same cs ds && decide (o = q)
  | .eptr L v i o, .eptr M w j q => decide (L = M) && (decide (v = w) && (decide (i = j) && decide (o = q)))
  | .nils, .nils => true
  | .sl a s cs, .sl b t ds => (a == b) && (decide (s = t) && AVs.same cs ds)
  | .row L v o l, .row M w q m => decide (L = M) && (decide (v = w) && (decide (o = q) && decide (l = m)))
  | .nilm, .nilm => true
  | .map L, .map M => decide (L = M)
  | .nilf, .nilf => true
  | .iface t a, .iface u b => decide (t = u) && AV.same a b
  | .nili, .nili => true
  | .agg cs, .agg ds => AVs.same cs ds
  | .tup cs, .tup ds => AVs.same cs ds
  | .any, .any => true
  | _, _ => false
def AVs.same : List AV → List AV → Bool
  | [], [] => true
  | a :: as, b :: bs => AV.same a b && AVs.same as bs
  | _, _ => false
end
theorem beqS_eq' {a b : ByteArray} (h : beqS a b = true) : a = b := by
  cases a with | mk x => cases b with | mk y => cases x with | mk l => cases y with | mk m =>
    have : l = m := by simpa [beqS] using h
    rw [this]
mutual
theorem AV.same_eq : ∀ (a b : AV), AV.same a b = true → a = b
  | .bool a, b, h => by cases b <;> simp_all [AV.same]
  | .int k n, b, h => by cases b <;> simp_all [AV.same]
  | .str s, b, h => by cases b <;> simp [AV.same] at h; rw [beqS_eq' h]
  | .nilp, b, h => by cases b <;> simp_all [AV.same]
  | .ptr L o, b, h => by cases b <;> simp_all [AV.same]
  | .rptr cs o, b, h => by
    cases b <;> simp only [AV.same, Bool.and_eq_true, decide_eq_true_eq, Bool.false_eq_true] at h
    rw [AVs.same_eq _ _ h.1, h.2]
  | .eptr L v i o, b, h => by cases b <;> simp_all [AV.same]
  | .nils, b, h => by cases b <;> simp_all [AV.same]
  | .sl x s cs, b, h => by
    cases b <;> simp only [AV.same, Bool.and_eq_true, decide_eq_true_eq, Bool.false_eq_true, beq_iff_eq] at h
    rw [AVs.same_eq _ _ h.2.2, h.1, h.2.1]
  | .row L v o l, b, h => by cases b <;> simp_all [AV.same]
  | .nilm, b, h => by cases b <;> simp_all [AV.same]
  | .map L, b, h => by cases b <;> simp_all [AV.same]
  | .fn f xs ys, b, h => by cases b <;> simp [AV.same] at h
  | .nilf, b, h => by cases b <;> simp_all [AV.same]
  | .iface t a, b, h => by
    cases b <;> simp only [AV.same, Bool.and_eq_true, decide_eq_true_eq, Bool.false_eq_true] at h
    rw [AV.same_eq _ _ h.2, h.1]
  | .nili, b, h => by cases b <;> simp_all [AV.same]
  | .agg cs, b, h => by
    cases b <;> simp only [AV.same, Bool.false_eq_true] at h
    rw [AVs.same_eq _ _ h]
  | .tup cs, b, h => by
    cases b <;> simp only [AV.same, Bool.false_eq_true] at h
    rw [AVs.same_eq _ _ h]
  | .any, b, h => by cases b <;> simp_all [AV.same]
theorem AVs.same_eq : ∀ (as bs : List AV), AVs.same as bs = true → as = bs
  | [], b, h => by cases b <;> simp_all [AVs.same]
  | a :: as, b, h => by
    cases b with
    | nil => simp [AVs.same] at h
    | cons c bs =>
      simp only [AVs.same, Bool.and_eq_true] at h
      rw [AV.same_eq _ _ h.1, AVs.same_eq _ _ h.2]
end
def sameEs : List (AV × AV) → List (AV × AV) → Bool
  | [], [] => true
  | a :: as, b :: bs => AV.same a.1 b.1 && (AV.same a.2 b.2 && sameEs as bs)
  | _, _ => false
theorem sameEs_eq : ∀ (as bs : List (AV × AV)), sameEs as bs = true → as = bs
  | [], b, h => by cases b <;> simp_all [sameEs]
  | a :: as, b, h => by
    cases b with
    | nil => simp [sameEs] at h
    | cons c bs =>
      simp only [sameEs, Bool.and_eq_true] at h
      rw [sameEs_eq _ _ h.2.2, show a = c from Prod.ext (AV.same_eq _ _ h.1) (AV.same_eq _ _ h.2.1)]
def AObj.same : AObj → AObj → Bool
  | .cells cs, .cells ds => AVs.same cs ds
  | .row es s v f, .row gs t w g => AVs.same es gs && (decide (s = t) && (decide (v = w) && (f == g)))
  | .map es, .map gs => sameEs es gs
  | .iter a, .iter b => AV.same a b
  | .dead, .dead => true
  | _, _ => false
theorem AObj.same_eq {a b : AObj} (h : AObj.same a b = true) : a = b := by
  cases a <;> cases b <;> simp only [AObj.same, Bool.and_eq_true, decide_eq_true_eq, beq_iff_eq, Bool.false_eq_true] at h
  · rw [AVs.same_eq _ _ h]
  · rw [AVs.same_eq _ _ h.1, h.2.1, h.2.2.1, h.2.2.2]
  · rw [sameEs_eq _ _ h]
  · rw [AV.same_eq _ _ h]
  · rfl
def sameOs : List AObj → List AObj → Bool
  | [], [] => true
  | a :: as, b :: bs => AObj.same a b && sameOs as bs
  | _, _ => false
theorem sameOs_eq : ∀ (as bs : List AObj), sameOs as bs = true → as = bs
  | [], b, h => by cases b <;> simp_all [sameOs]
  | a :: as, b, h => by
    cases b with
    | nil => simp [sameOs] at h
    | cons c bs =>
      simp only [sameOs, Bool.and_eq_true] at h
      rw [AObj.same_eq h.1, sameOs_eq _ _ h.2]
/-- A run that is known. -/
structure Known where
  args : List AV
  σ : AS
  ro : Option Nat
  v : AV
  σ' : AS
def Known.fits (k : Known) (args : List AV) (σ : AS) (ro : Option Nat) : Bool :=
  AVs.same k.args args && (sameOs k.σ.hp σ.hp && (sameOs k.σ.st σ.st && decide (k.ro = ro)))
theorem Known.fits_eq {k : Known} {args : List AV} {σ : AS} {ro : Option Nat} (h : k.fits args σ ro = true) : args = k.args ∧ σ = k.σ ∧ ro = k.ro := by
  simp only [Known.fits, Bool.and_eq_true, decide_eq_true_eq] at h
  refine ⟨(AVs.same_eq _ _ h.1).symm, ?_, h.2.2.2.symm⟩
  have e1 := sameOs_eq _ _ h.2.1
  have e2 := sameOs_eq _ _ h.2.2.1
  cases σ with | mk a b =>
    simp only at e1 e2
    rw [← e1, ← e2]
/-- Known runs answer; the others are run. -/
def memoP (run : List AV → AS → Option Nat → Option (AV × AS)) : List Known → List AV → AS → Option Nat → Option (AV × AS)
  | [], args, σ, ro => run args σ ro
  | k :: ks, args, σ, ro => if k.fits args σ ro = true then some (k.v, k.σ') else memoP run ks args σ ro
theorem memoP_inv {run : List AV → AS → Option Nat → Option (AV × AS)} : ∀ {ks : List Known} {args : List AV} {σ : AS} {ro : Option Nat} {r : AV × AS}, (∀ k ∈ ks, run k.args k.σ k.ro = some (k.v, k.σ')) → memoP run ks args σ ro = some r → run args σ ro = some r
  | [], _, _, _, _, _, h => h
  | k :: ks, args, σ, ro, r, hk, h => by
    simp only [memoP] at h
    split at h
    · rename_i hf
      obtain ⟨rfl, rfl, rfl⟩ := Known.fits_eq hf
      rw [← h]
      exact hk k (List.mem_cons_self ..)
    · exact memoP_inv (fun x hx => hk x (List.mem_cons_of_mem _ hx)) h
theorem memo_ok {P : Program} {how : FuncId → Option How} (hm : P.follows .mixedOrders = true) (hw : HowOk P how) {n : Nat} {f : FuncId} (hent : ∃ fn, P.funcs[f]? = some fn ∧ fn.body.isSome = true ∧ (fn.name == "runtime.NumGoroutine") = false) {ks : List Known} (hk : ∀ k ∈ ks, callN P how n f k.args k.σ k.ro = some (k.v, k.σ')) : PrimOk P f (memoP (callN P how n f) ks) := {
  ent := hent
  snd := by
    intro args σ ro v σ' h ρ w us s hv
    exact (callN_ok hm hw n).snd f args σ ro v σ' (memoP_inv hk h) ρ w us s hv
  beh := by
    intro args σ ro v σ' h
    exact (callN_ok hm hw n).beh f args σ ro v σ' (memoP_inv hk h) }
/-- A function without arguments whose run from the empty state gives true. -/
def trueP (args : List AV) (σ : AS) (_ : Option Nat) : Option (AV × AS) := match args with
  | [] => some (.bool true, σ)
  | _ => none
theorem true_ok {P : Program} {how : FuncId → Option How} (hm : P.follows .mixedOrders = true) (hw : HowOk P how) {n : Nat} {f : FuncId} (hent : ∃ fn, P.funcs[f]? = some fn ∧ fn.body.isSome = true ∧ (fn.name == "runtime.NumGoroutine") = false) {σ1 : AS} (h : callN P how n f [] ⟨[], []⟩ none = some (.bool true, σ1)) : PrimOk P f trueP := by
  have ok := promE_ok hm hw hent
  have e : ∀ {args σ ro v σ'}, trueP args σ ro = some (v, σ') → promE (callW P how f) args σ ro = some (v, σ') := by
    intro args σ ro v σ' hp
    unfold trueP at hp
    split at hp
    · cases hp
      exact promE_eq (callW_of h)
    · cases hp
  exact ⟨ok.ent, fun args σ ro v σ' hp => ok.snd args σ ro v σ' (e hp), fun args σ ro v σ' hp => ok.beh args σ ro v σ' (e hp)⟩
/-- One function more that is a prim. -/
def addH (how : FuncId → Option How) (f : FuncId) (p : List AV → AS → Option Nat → Option (AV × AS)) : FuncId → Option How := fun g => if g = f then some (.prim p) else how g
theorem HowOk.add {P : Program} {how : FuncId → Option How} (hw : HowOk P how) {f : FuncId} {p : List AV → AS → Option Nat → Option (AV × AS)} (hp : PrimOk P f p) : HowOk P (addH how f p) := {
  body := by
    intro g fl fn c h1 h2 h3
    unfold addH at h1
    split at h1
    · cases h1
    · exact hw.body g fl fn c h1 h2 h3
  prim := by
    intro g q h
    unfold addH at h
    split at h
    · rename_i he
      subst he
      cases h
      exact hp
    · exact hw.prim g q h }
end Go.Abs
end
