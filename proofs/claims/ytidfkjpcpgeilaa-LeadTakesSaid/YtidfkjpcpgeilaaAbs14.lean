/- Part 14 of the abstract interpreter: its operations and what they say of a world, for any program and any world. -/
import Derived.Test.YtidfkjpcpgeilaaAbs13
import Derived.Maps.RangeRun
set_option linter.unusedVariables false
set_option linter.unusedSimpArgs false
section
open Go Go.Proofs
set_option linter.unusedSimpArgs false
set_option linter.unusedVariables false
namespace Go.Abs
def promE (run : List AV → AS → Option Nat → Option (AV × AS)) (args : List AV) (σ : AS) (ro : Option Nat) : Option (AV × AS) :=
  match args, run [] ⟨[], []⟩ none with
  | [], some (.bool b, _) => some (.bool b, σ)
  | _, _ => none
theorem promE_inv {run : List AV → AS → Option Nat → Option (AV × AS)} {args : List AV} {σ : AS} {ro : Option Nat} {v : AV} {σ' : AS} (h : promE run args σ ro = some (v, σ')) :
    args = [] ∧ σ' = σ ∧ ∃ b σ1, v = .bool b ∧ run [] ⟨[], []⟩ none = some (.bool b, σ1) := by
  unfold promE at h
  split at h
  · rename_i b σ1 hr
    cases h
    exact ⟨rfl, rfl, b, σ1, rfl, hr⟩
  · cases h
theorem promE_eq {run : List AV → AS → Option Nat → Option (AV × AS)} {σ σ1 : AS} {ro : Option Nat} {b : Bool} (h : run [] ⟨[], []⟩ none = some (.bool b, σ1)) : promE run [] σ ro = some (.bool b, σ) := by
  unfold promE
  rw [h]
theorem promE_ok {P : Program} {how : FuncId → Option How} (hm : P.follows .mixedOrders = true) (hw : HowOk P how) {f : FuncId} (hent : ∃ fn, P.funcs[f]? = some fn ∧ fn.body.isSome = true ∧ (fn.name == "runtime.NumGoroutine") = false) : PrimOk P f (promE (callW P how f)) := {
  ent := hent
  snd := by
    intro args σ ro v σ' h ρ w us s hv
    obtain ⟨rfl, rfl, b, σ1, rfl, h1⟩ := promE_inv h
    obtain ⟨n, h1⟩ := callW_inv h1
    have ok := callN_ok hm hw n
    have s0 : SR ⟨fun _ => none, fun _ => False⟩ ⟨[], []⟩ w := {
      objD := fun L ob hg _ => by cases L <;> simp [AS.get] at hg
      dom := fun L p hp => by cases hp
      inj := fun L L' p p' hp => by cases hp
      lt := fun L p hp => by cases hp
      hin := fun i cs hg => by simp [AS.get] at hg
      nres := fun L p hp => by cases hp
      resl := fun b hb => hb.elim
      glb := fun x hx => ⟨(s.glb x hx).1, ⟨fun L p hp => (by cases hp), fun h => h⟩, (s.glb x hx).2.2⟩ }
    have F0 : ∀ b, Free ⟨fun _ => none, fun _ => False⟩ b := fun b => ⟨fun L p hp => (by cases hp), fun h => h⟩
    have hv0 : VRs ⟨fun _ => none, fun _ => False⟩ w [] us := ⟨hv.1, fun i c v hc _ => by simp at hc⟩
    refine (ok.snd f [] ⟨[], []⟩ none (.bool b) σ1 h1 _ w us s0 hv0).mono fun e w' ⟨ρ', u, he, x, s', hu⟩ => ?_
    have hh : ∀ b, b < w.heap.size → w'.heap[b]? = w.heap[b]? := fun b hb => (x.free b hb (F0 b)).2
    have X : Ext ρ w ρ w' := ⟨fun _ p h => ⟨p, h, rfl, Nat.le_refl _, fun _ => ⟨rfl, rfl, rfl, rfl⟩, fun _ => rfl⟩, fun b hb hf => ⟨hf, hh b hb⟩, ⟨rfl, fun b hb _ => hh b hb⟩, x.size, x.os, x.tape, x.output⟩
    refine ⟨ρ, u, he, X, ?_, ?_⟩
    · exact {
        objD := fun L ob hg hd => by
          obtain ⟨p, hp, ho⟩ := s.objD L ob hg hd
          exact ⟨p, hp, OR.mono X (fun hl => hh _ (s.lt L p hp hl)) ho⟩
        dom := s.dom
        inj := s.inj
        lt := fun L p hp hl => Nat.lt_of_lt_of_le (s.lt L p hp hl) x.size
        hin := s.hin
        nres := s.nres
        resl := fun b hb => Nat.lt_of_lt_of_le (s.resl b hb) x.size
        glb := X.glb s }
    · cases hu
      exact .bool b
  beh := by
    intro args σ ro v σ' h
    obtain ⟨_, rfl, _⟩ := promE_inv h
    exact Beh.refl _ _ _ }
end Go.Abs
end
section
open Go Go.Proofs Go.RowKit
open Go.ChangeMaps (setBlock)
set_option linter.unusedSimpArgs false
set_option linter.unusedVariables false
namespace Go.Abs
theorem List.set_getElem?_self' {α : Type} {l : List α} {i : Nat} {a : α} (h : l[i]? = some a) : l.set i a = l := by
  obtain ⟨hi, h⟩ := List.getElem?_eq_some_iff.1 h
  subst h
  exact List.set_getElem_self hi
section
variable {P : Program} {cx : Cx} {call : Caller}
def seqV (P : Program) (σ : AS) (all : List Oper) : List Oper → Env → Option Env
  | [], env => some env
  | o :: os, env =>
    if wantedA all env o = true then
      if isVal P o = true ∧ optsA env o = true then
        match valA P σ env o with
        | some v => seqV P σ all os (putE env o.dst v)
        | none => none
      else none
    else seqV P σ all os (putE env o.dst (.tup []))
theorem seqV_sound {ops : Array Oper} {Q : Exit → Act → World → Prop} {rest : List Oper} {σ : AS} {w : World} {ρ : Rho} (s : SR ρ σ w) : ∀ (os : List Oper) (env env' : Env) (a : Act), ER ρ w env a.tmps → a.defers = [] → seqV P σ ops.toList os env = some env' →
    (∀ a', ER ρ w env' a'.tmps → a'.defers = [] → wpList P ops Q rest a' w) → wpList P ops Q (os ++ rest) a w
  | [], env, env', a, hE, hd, h, hQ => by
    cases h
    exact hQ a hE hd
  | o :: os, env, env', a, hE, hd, h, hQ => by
    have hdp : ∀ u, (a.put o.dst u).defers = [] := fun u => by cases hh : o.dst <;> simp [Act.put, hd]
    simp only [seqV] at h
    rw [List.cons_append]
    unfold wpList
    rw [← wantedA_eq hE ops o]
    split at h
    · rename_i hw
      rw [if_pos hw]
      refine .inl ?_
      split at h
      · rename_i hc
        split at h
        · rename_i v hva
          obtain ⟨u, h1, h2⟩ := valA_sound (P := P) s.toSRo hE hc.2 hva
          exact wp_value h1 (seqV_sound s os _ _ _ (hE.put h2) (hdp u) h hQ)
        · cases h
      · cases h
    · rename_i hw
      rw [if_neg hw]
      exact seqV_sound s os _ _ _ (hE.put VR.undef) (hdp undef) h hQ
theorem lay_one {cs : List AV} {o : Nat} (v : AV) (ho : o < cs.length) : lay cs o [v] = cs.set o v := by
  unfold lay
  rw [List.set_eq_take_append_cons_drop, if_pos ho]
  simp
theorem wp_store {ρ : Rho} {σ : AS} {w : World} (s : SR ρ σ w) {env : Env} {a : Act} (hE : ER ρ w env a.tmps) {o : Oper} {t : TypeId} {x y : Operand} (hop : o.op = .store t x y) {L : Abs.Loc} {k : Nat} {kk : IntKind} {n : Int} (hx : ev env x = some (.ptr L k)) (hy : ev env y = some (.int kk n))
    (hz : sizeA P t = some 1) {cs : List AV} (hg : σ.get L = some (.cells cs)) (hk : k < cs.length) {p : Place} (hp : ρ L = some p) {K : Act → World → Prop} {Q : Exit → Act → World → Prop}
    (hK : ∀ w' ρ', Ext ρ w ρ' w' → SR ρ' (σ.set L (.cells (cs.set k (.int kk n)))) w' → (∀ b, b ≠ p.b → w'.heap[b]? = w.heap[b]?) → K (a.put o.dst undef) w') : o.wp P a w K Q := by
  have vx := ev_sound hE hx
  have vy := ev_sound hE hy
  generalize hux : a.eval x = ux at vx
  generalize huy : a.eval y = uy at vy
  cases vx with
  | ptr _ _ p' hp' hr' =>
    have : p' = p := Option.some.inj (hp'.symm.trans hp)
    subst this
    cases vy
    obtain ⟨q, hq, hlive, hrow, vs, E, hw, hl, hv⟩ := s.obj L _ hg
    have : q = p' := Option.some.inj (hq.symm.trans hp)
    subst this
    obtain ⟨r1, ρ2, x2, s2⟩ := store_cells (P := P) (o := k) (xs := [.int kk n]) (us := [.int kk n]) s hg ⟨rfl, fun i c v hc hv => by
      match i with
      | 0 => simp at hc hv; subst hc; subst hv; exact .int _ _
      | i + 1 => simp at hc⟩ (fun x hx => by rw [List.mem_singleton.1 hx]; rfl) (by simp; omega) (fun _ _ => rfl) hp
    rw [lay_one _ hk] at s2
    have hsa : (Instr.storeAt t (.pointer (some ⟨q.b, k, none⟩)) (.int kk n)).run P w = .ok () (w.setCells q.b k [.int kk n]) := by
      rw [← r1]
      simp [Instr.storeAt, Instr.sureAddr, storeVar, run_sizeA hz, Value.cells]
    obtain ⟨_, _, _, _, g5, _⟩ := setCells_spec q.b E (0, 0) [.int kk n] k w vs hw (by simp; omega)
    unfold Oper.wp
    rw [show execOp a.eval o = (do Instr.storeAt t (.pointer (some ⟨q.b, k, none⟩)) (.int kk n); pure .skip) by simp [execOp, hop, hux, huy], Sem.run_bind, hsa]
    exact hK _ ρ2 x2 s2 g5
theorem wp_next {ρ : Rho} {σ : AS} {w : World} (s : SR ρ σ w) {env : Env} {a : Act} (hE : ER ρ w env a.tmps) {o : Oper} {x : Operand} (hop : o.op = .next x false) {L M : Abs.Loc} (hx : ev env x = some (.ptr L 0)) (hg : σ.get L = some (.iter (.map M))) {p q : Place} (hp : ρ L = some p) (hq : ρ M = some q)
    {since c0 clock : Nat} {seen : Array Nat} {arr : Array MapEntry} (h1 : w.heap[p.b]? = some (.mapIter (some q.b) since seen c0)) (h2 : w.heap[q.b]? = some (.map arr clock)) (hold : ∀ x ∈ arr.toList, x.born < since) (hsc : since ≤ c0) {K : Act → World → Prop} {Q : Exit → Act → World → Prop}
    (hend : (leftOf arr seen).size = 0 → K (a.put o.dst (.tuple #[.bool false])) w)
    (hmore : ∀ e ∈ (leftOf arr seen).toList, ∀ w' ρ', Ext ρ w ρ' w' → SR ρ' σ w' → ρ' L = some p → ρ' M = some q → w'.heap[p.b]? = some (.mapIter (some q.b) since (seen.push e.born) clock) → w'.heap[q.b]? = w.heap[q.b]? → K (a.put o.dst (.tuple #[.bool true, e.key, e.val])) w') : o.wp P a w K Q := by
  have vx := ev_sound hE hx
  generalize hux : a.eval x = ux at vx
  cases vx with
  | ptr _ _ p' hp' hr' =>
    have : p' = p := Option.some.inj (hp'.symm.trans hp)
    subst this
    have hex : execOp a.eval o = (do pure (.value (← Instr.next (.pointer (some ⟨p'.b, 0, none⟩)) false o.type))) := by simp [execOp, hop, hux]
    rcases run_next_at (P := P) w o.type p'.b q.b since c0 seen arr clock h1 h2 hold hsc with ⟨he, hrun⟩ | ⟨e, hm, w1, hw1, hrun⟩
    · unfold Oper.wp
      rw [hex, Sem.run_bind, hrun]
      exact hend he
    · unfold Oper.wp
      rw [hex, Sem.run_bind, hrun]
      obtain ⟨p2, hp2, hlive, hrow, hin, mb, since', seen', last', hw', hv'⟩ := s.obj L _ hg
      have : p2 = p' := Option.some.inj (hp2.symm.trans hp)
      subst this
      have hne : q.b ≠ p2.b := fun e => by rw [e, h1] at h2; cases h2
      have hh1 : w1.heap = w.heap := by rcases hw1 with rfl | rfl <;> rfl
      have hlt : p2.b < w.heap.size := s.lt L p2 hp hlive
      have hmb : mb = some q.b := by
        rw [h1] at hw'
        injection hw' with hw'
        injection hw' with e1 _ _ _
        exact e1.symm
      subst hmb
      have hset : ∀ b, (setBlock w1 p2.b (.mapIter (some q.b) since (seen.push e.born) clock)).heap[b]? = if b = p2.b then some (.mapIter (some q.b) since (seen.push e.born) clock) else w.heap[b]? := fun b => by
        show (w1.heap.setIfInBounds p2.b _)[b]? = _
        rw [hh1, Array.getElem?_setIfInBounds]
        by_cases hb : p2.b = b
        · subst hb; simp [hlt]
        · rw [if_neg hb, if_neg (fun e => hb e.symm)]
      have hos : (setBlock w1 p2.b (.mapIter (some q.b) since (seen.push e.born) clock)).os = w.os ∧ (setBlock w1 p2.b (.mapIter (some q.b) since (seen.push e.born) clock)).tape = w.tape ∧ (setBlock w1 p2.b (.mapIter (some q.b) since (seen.push e.born) clock)).output = w.output := by
        rcases hw1 with rfl | rfl <;> exact ⟨rfl, rfl, rfl⟩
      have hsz : (setBlock w1 p2.b (.mapIter (some q.b) since (seen.push e.born) clock)).heap.size = w.heap.size := by
        show (w1.heap.setIfInBounds p2.b _).size = _
        rw [hh1]; simp
      have := s.write (w' := setBlock w1 p2.b (.mapIter (some q.b) since (seen.push e.born) clock)) (ob' := .iter (.map M)) (p' := p2) hp hlive rfl (Nat.le_refl _) (fun _ => ⟨rfl, rfl, rfl, rfl⟩) (fun _ => rfl) (.inl rfl)
        (fun b _ hb => by rw [hset, if_neg hb]) (Nat.le_of_eq hsz.symm) hos.1 hos.2.1 hos.2.2 (fun i cs _ e => by cases e)
        (fun x => ⟨hlive, hrow, hin, some q.b, since, seen.push e.born, clock, by rw [hset, if_pos rfl], hv'.mono x⟩)
      have hsame : σ.set L (.iter (.map M)) = σ := by
        cases L with
        | hp i =>
          have : σ.hp[i]? = some (.iter (.map M)) := hg
          show AS.mk (σ.hp.set i _) σ.st = σ
          rw [List.set_getElem?_self' this]
        | st i =>
          have : σ.st[i]? = some (.iter (.map M)) := hg
          show AS.mk σ.hp (σ.st.set i _) = σ
          rw [List.set_getElem?_self' this]
      rw [hsame] at this
      exact hmore e hm _ _ this.2 this.1 (upd_same _ _ _) (by rw [upd_ne (fun e2 => by subst e2; rw [hp] at hq; cases hq; exact hne rfl)]; exact hq) (by rw [hset, if_pos rfl]) (by rw [hset, if_neg hne])
theorem wp_entry {ρ : Rho} {w : World} {env : Env} {a : Act} (hE : ER ρ w env a.tmps) {o : Oper} {x : Operand} (hop : o.op = .entry x) {L : Abs.Loc} (hx : ev env x = some (.ptr L 0)) {p : Place} (hp : ρ L = some p) {bm since clock : Nat} {seen : Array Nat} {arr : Array MapEntry} {e : MapEntry}
    (h1 : w.heap[p.b]? = some (.mapIter (some bm) since (seen.push e.born) clock)) (h2 : w.heap[bm]? = some (.map arr clock)) (he : e ∈ arr.toList) (hn : (arr.toList.map (·.born)).Nodup) {K : Act → World → Prop} {Q : Exit → Act → World → Prop}
    (hK : K (a.put o.dst (.tuple #[e.key, e.val])) w) : o.wp P a w K Q := by
  have vx := ev_sound hE hx
  generalize hux : a.eval x = ux at vx
  cases vx with
  | ptr _ _ p' hp' hr' =>
    have : p' = p := Option.some.inj (hp'.symm.trans hp)
    subst this
    have hex : execOp a.eval o = (do pure (.value (← Instr.entry (.pointer (some ⟨p'.b, 0, none⟩))))) := by simp [execOp, hop, hux]
    unfold Oper.wp
    rw [hex, Sem.run_bind, run_entry_at w p'.b bm since seen arr clock e h1 h2 he hn]
    exact hK
theorem wp_range {ρ : Rho} {σ : AS} {w : World} (s : SR ρ σ w) {env : Env} {a : Act} (hE : ER ρ w env a.tmps) {o : Oper} {t k e : TypeId} {x : Operand} (hop : o.op = .range t x) (ht : P.underlying t = some (.map k e)) {M : Abs.Loc} (hx : ev env x = some (.map M)) {es : List (AV × AV)} (hg : σ.get M = some (.map es)) (hM : AV.inb 0 (.map M) = true) {K : Act → World → Prop} {Q : Exit → Act → World → Prop}
    (hK : ∀ w' ρ' p q arr clock, Ext ρ w ρ' w' → SR ρ' (σ.push false (.iter (.map M))) w' → ρ' (σ.next false) = some p → p.row = false → ρ' M = some q → w'.heap[p.b]? = some (.mapIter (some q.b) clock #[] clock) → w'.heap[q.b]? = some (.map arr clock) → MapKept.Stamped arr clock → EntriesR ρ' w' es arr.toList →
      K (a.put o.dst (.pointer (some ⟨p.b, 0, none⟩))) w') : o.wp P a w K Q := by
  have vx := ev_sound hE hx
  generalize hux : a.eval x = ux at vx
  obtain ⟨q, arr, clock, hq, hqr, hql, hqw, hst, hes⟩ := map_obj s.toSRo hg
  cases vx with
  | map _ q' hq' hr' =>
    have : q' = q := Option.some.inj (hq'.symm.trans hq)
    subst this
    have hrun := run_range_map (P := P) w t k e q'.b arr clock ht hqw
    have hex : execOp a.eval o = (do pure (.value (← Instr.range t (.map (some q'.b))))) := by simp [execOp, hop, hux]
    unfold Oper.wp
    rw [hex, Sem.run_bind, hrun]
    have := s.push (w' := w.alloc (.mapIter (some q'.b) clock #[] clock)) (e := false) (ob := .iter (.map M)) (p := { b := w.heap.size, o := 0, sz := 1, cap := 0, ver := 0, row := false, live := true }) rfl rfl
      (fun b hb => heap_alloc_old w _ hb) (by simp) rfl rfl rfl (fun cs' h1 h2 => by cases h2)
      (fun x => ⟨rfl, rfl, hM, some q'.b, clock, #[], clock, heap_alloc_new w _, .map M q' (by
        rw [upd_ne (fun e => by subst e; have := s.dom _ _ hq; obtain ⟨ob, ho⟩ := this; rw [AS.get_next] at ho; cases ho)]; exact hq) hqr⟩)
    have hlt : q'.b < w.heap.size := s.lt M q' hq hql
    refine hK _ _ { b := w.heap.size, o := 0, sz := 1, cap := 0, ver := 0, row := false, live := true } q' arr clock this.2 this.1 (upd_same _ _ _) rfl ?_ (heap_alloc_new w _) ((heap_alloc_old w _ hlt).trans hqw) hst ⟨hes.1, fun i e m he hm => ?_⟩
    · rw [upd_ne (fun e => by subst e; have := s.dom _ _ hq; obtain ⟨ob, ho⟩ := this; rw [AS.get_next] at ho; cases ho)]; exact hq
    · obtain ⟨i1, i2, v1, v2⟩ := hes.2 i e m he hm
      exact ⟨i1, i2, v1.mono this.2, v2.mono this.2⟩
end
end Go.Abs
end
