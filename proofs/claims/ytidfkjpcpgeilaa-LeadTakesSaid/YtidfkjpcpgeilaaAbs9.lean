/- Part 9 of the abstract interpreter: its operations and what they say of a world, for any program and any world. -/
import Derived.Test.YtidfkjpcpgeilaaAbs8
import Derived.ProofKit
set_option linter.unusedVariables false
set_option linter.unusedSimpArgs false
section
namespace Go.Abs
section
variable {P : Program}
theorem Act.init_ER {ρ : Rho} {w : World} {fn : Func} {args : List AV} {us : List Value} (h : VRs ρ w args us) :
    ER ρ w (frameA fn args) (us.toArray ++ Array.replicate (fn.ntmps - us.toArray.size) undef) := by
  have hl := h.1
  refine ⟨by simp [frameA, hl], fun t c v hc hv => ?_⟩
  unfold frameA at hc
  rcases Nat.lt_or_ge t args.length with ht | ht
  · rw [List.getElem?_append_left ht] at hc
    rw [Array.getElem?_append_left (by simp; omega)] at hv
    exact h.2 t c v hc (by simpa using hv)
  · rw [List.getElem?_append_right ht] at hc
    rw [Array.getElem?_append_right (by simp; omega)] at hv
    have h1 := List.mem_replicate.1 (getElem?_mem' hc)
    have h2 : v = undef := by
      rw [Array.getElem?_replicate] at hv
      split at hv
      · simpa using hv.symm
      · cases hv
    rw [h1.2, h2]
    exact VR.undef
structure PrimOk (P : Program) (f : FuncId) (p : List AV → AS → Option Nat → Option (AV × AS)) : Prop where
  ent : ∃ fn, P.funcs[f]? = some fn ∧ fn.body.isSome = true ∧ (fn.name == "runtime.NumGoroutine") = false
  snd : ∀ args σ ro v σ', p args σ ro = some (v, σ') → ∀ ρ w us, SR ρ σ w → VRs ρ w args us →
    Calls P f us.toArray w fun e w' => ∃ ρ' u, e = .returned u ∧ Ext ρ w ρ' w' ∧ SR ρ' σ' w' ∧ VR ρ' w' v u
  beh : ∀ args σ ro v σ', p args σ ro = some (v, σ') → Beh σ.st.length ro σ σ'
structure HowOk (P : Program) (how : FuncId → Option How) : Prop where
  body : ∀ f fl fn c, how f = some (.body fl) → P.funcs[f]? = some fn → fn.body = some c → codeOk P fl.tails c = true ∧ (fn.name == "runtime.NumGoroutine") = false
  prim : ∀ f p, how f = some (.prim p) → PrimOk P f p
theorem finishA_inv {fl : Flags} {fn : Func} {h : Nat} {r : Option (AExit × St)} {v : AV} {σ' : AS} (x : finishA P fl fn h r = some (v, σ')) :
    ∃ e env σ vs, r = some (e, env, σ) ∧ (e = .normal ∨ e = .ret) ∧ resA P σ env fn.results.toList = some vs ∧
      ((fl.keep = true ∧ v = oneA vs ∧ σ' = σ) ∨ ((oneA vs).back h σ = some v ∧ v.inb h = true ∧ σ' = σ.cut h)) := by
  unfold finishA at x
  split at x
  · cases x
  · rename_i e env σ hne
    split at x
    · rename_i vs hr
      refine ⟨e, env, σ, vs, rfl, ?_, hr, ?_⟩
      · cases e with
        | normal => exact .inl rfl
        | ret => exact .inr rfl
        | exit i => exact absurd rfl (hne i)
      · split at x
        · rename_i hk
          cases x
          exact .inl ⟨hk, rfl, rfl⟩
        · split at x
          · rename_i v' hb
            split at x
            · rename_i hi
              cases x
              exact .inr ⟨hb, hi, rfl⟩
            · cases x
          · cases x
    · cases x
  · cases x
theorem callN_inv {how : FuncId → Option How} {n : Nat} {f : FuncId} {args : List AV} {σ : AS} {ro : Option Nat} {r : AV × AS} (h : callN P how (n + 1) f args σ ro = some r) :
    (∃ p, how f = some (.prim p) ∧ p args σ ro = some r) ∨
    ∃ fl fn c, how f = some (.body fl) ∧ P.funcs[f]? = some fn ∧ fn.body = some c ∧ finishA P fl fn σ.st.length (execA P (cxOf fl σ ro) fl.tails (callN P how n) n c (frameA fn args, σ)) = some r := by
  simp only [callN] at h
  split at h
  · cases h
  · rename_i p hp
    exact .inl ⟨p, hp, h⟩
  · rename_i fl hfl
    split at h
    · cases h
    · rename_i fn hfn
      split at h
      · cases h
      · rename_i c hc
        exact .inr ⟨fl, fn, c, hfl, hfn, hc, h⟩
theorem callN_ok (hm : P.follows .mixedOrders = true) {how : FuncId → Option How} (hw : HowOk P how) : ∀ n, CallOk P (callN P how n)
  | 0 => ⟨fun f args σ ro r h => by simp [callN] at h, fun f args σ ro v σ' h => by simp [callN] at h, fun f args σ ro v σ' h => by simp [callN] at h⟩
  | n + 1 => by
    have ih := callN_ok hm hw n
    refine ⟨fun f args σ ro r h => ?_, fun f args σ ro v σ' h ρ w us s hv => ?_, fun f args σ ro v σ' h => ?_⟩
    · rcases callN_inv h with ⟨p, hp, _⟩ | ⟨fl, fn, c, hfl, hfn, hc, _⟩
      · exact (hw.prim f p hp).ent
      · exact ⟨fn, hfn, by rw [hc]; rfl, (hw.body f fl fn c hfl hfn hc).2⟩
    · rcases callN_inv h with ⟨p, hp, hr⟩ | ⟨fl, fn, c, hfl, hfn, hc, hr⟩
      · exact (hw.prim f p hp).snd args σ ro v σ' hr ρ w us s hv
      · obtain ⟨e, env, σ1, vs, hx, he, hres, hout⟩ := finishA_inv hr
        have hb := execA_beh (cx := cxOf fl σ ro) ih c _ _ e (Nat.le_refl _) hx
        refine calls_of_wp hfn hc (execA_sound hm ih c _ _ e _ w ρ (hw.body f fl fn c hfl hfn hc).1 s (Act.init_ER hv) rfl hx _ fun a' w' ρ' x' s' hE' hd' => ?_)
        obtain ⟨u, hu, vu⟩ := results_sound s'.toSRo hE' hres
        have key : ∃ ρ' u', Ending.returned u = .returned u' ∧ Ext ρ w ρ' w' ∧ SR ρ' σ' w' ∧ VR ρ' w' v u' := by
          rcases hout with ⟨_, rfl, rfl⟩ | ⟨hbk, hinb, rfl⟩
          · exact ⟨ρ', u, rfl, x', s', vu⟩
          · obtain ⟨ρ2, σ2, z, x2, s2, v2⟩ := back_sound _ _ _ _ _ s' vu hbk
            have hcut : σ2.cut σ.st.length = σ1.cut σ.st.length := by
              show AS.mk σ2.hp (σ2.st.take _) = AS.mk σ1.hp (σ1.st.take _)
              rw [z.1, z.2.2.1]
            have hinv1 : Inv σ.st.length σ1 := hb.inv _ (Nat.le_refl _) s.inv
            have hinv : Inv σ.st.length σ2 := fun i cs hi hg => by
              refine hinv1 i cs hi ?_
              have := congrArg (fun l : List AObj => l[i]?) z.2.2.1
              simp only [List.getElem?_take, if_pos hi] at this
              rw [← this]; exact hg
            exact ⟨ρ2.cut σ.st.length, u, rfl, (x'.trans x2).cut s.doml, hcut ▸ s2.cut hinv, v2.cut hinb⟩
        rcases he with rfl | rfl
        · exact ⟨hd', u, hu, key⟩
        · exact ⟨hd', u, hu, key⟩
    · rcases callN_inv h with ⟨p, hp, hr⟩ | ⟨fl, fn, c, hfl, hfn, hc, hr⟩
      · exact (hw.prim f p hp).beh args σ ro v σ' hr
      · obtain ⟨e, env, σ1, vs, hx, he, hres, hout⟩ := finishA_inv hr
        have hb := execA_beh (cx := cxOf fl σ ro) ih c _ _ e (Nat.le_refl _) hx
        rcases hout with ⟨_, rfl, rfl⟩ | ⟨hbk, hinb, rfl⟩
        · exact hb
        · refine ⟨fun k hk hi i cs hik hg => ?_, fun k hr hk => ?_, ?_⟩
          · refine hb.inv k hk hi i cs hik ?_
            have hk' : k ≤ σ.st.length := hk
            simp only [AS.cut, List.getElem?_take] at hg
            split at hg
            · exact hg
            · cases hg
          · obtain ⟨b1, b2⟩ := hb.ro k hr hk
            refine ⟨b1, ?_⟩
            simp only [AS.cut, List.take_take, Nat.min_eq_left hk]
            exact b2
          · have := hb.len
            simp only [AS.cut, List.length_take]
            have h2 : σ.st.length ≤ σ1.st.length := this
            omega
end
end Go.Abs
end
section
namespace Go.Abs
def rho0 : Rho := ⟨fun _ => none, fun _ => False⟩
theorem free0 (b : Nat) : Free rho0 b := ⟨fun _ _ h => by simp [rho0] at h, fun h => h⟩
def GlbOk (w : World) : Prop := ∀ x ∈ glbCells, x.1 < w.heap.size ∧ w.cell? ⟨x.1, 0, none⟩ = some x.2
theorem GlbOk.none (h : glbCells = []) (w : World) : GlbOk w := fun x hx => by rw [h] at hx; cases hx
theorem SR.start {w : World} (g : GlbOk w) : SR rho0 ⟨[], []⟩ w :=
  ⟨⟨fun L ob h _ => by cases L <;> simp [AS.get] at h⟩, fun _ _ h => by simp [rho0] at h, fun _ _ _ _ h => by simp [rho0] at h, fun _ _ h => by simp [rho0] at h, fun i cs h => by simp [AS.get] at h, fun _ _ h => by simp [rho0] at h, fun _ h => h.elim, fun x hx => ⟨(g x hx).1, free0 _, (g x hx).2⟩⟩
section
variable (P : Program)
def isAggT (t : TypeId) : Bool := match P.underlying t with
  | some (.struct _) | some (.array _ _) => true
  | _ => false
def tileB : List Field → Nat → Nat → Bool
  | [], o, n => o == n
  | f :: fs, o, n => f.offset == o && tileB fs (o + P.cellsOf f.type) n
def plainT : Nat → TypeId → Bool
  | 0, _ => false
  | n + 1, t => match P.underlying t with
    | some .bool | some (.int _) | some .string => P.cellsOf t == 1
    | some (.pointer e) => P.cellsOf t == 1 && decide (0 < P.cellsOf e) && plainT n e
    | some (.slice e) => P.cellsOf t == 1 && decide (0 < P.cellsOf e) && (isAggT P e || P.cellsOf e == 1) && plainT n e
    | some (.struct fs) => tileB P fs.toList 0 (P.cellsOf t) && fs.toList.all fun f => plainT n f.type
    | some (.array k e) => k * P.cellsOf e == P.cellsOf t && decide (0 < P.cellsOf e) && plainT n e
    | _ => false
def hasFs (H : TypeId → List AV → Prop) : List Field → List AV → Prop
  | [], cs => cs = []
  | f :: fs, cs => ∃ xs ys, cs = xs ++ ys ∧ H f.type xs ∧ hasFs H fs ys
def hasAs (H : List AV → Prop) : Nat → List AV → Prop
  | 0, cs => cs = []
  | k + 1, cs => ∃ xs ys, cs = xs ++ ys ∧ H xs ∧ hasAs H k ys
def elemOf (t : TypeId) (xs : List AV) (x : AV) : Prop := if isAggT P t = true then x = .agg xs else xs = [x]
def hasCs : Nat → TypeId → List AV → Prop
  | 0, _, _ => False
  | n + 1, t, cs => match P.underlying t with
    | some .bool => ∃ b, cs = [.bool b]
    | some (.int k) => ∃ i, cs = [.int k i] ∧ (Lit.int k i).wf = true
    | some .string => ∃ s, cs = [.str s] ∧ s.size ≤ maxLen
    | some (.pointer e) => cs = [.nilp] ∨ ∃ xs, cs = [.rptr xs 0] ∧ hasCs n e xs
    | some (.slice e) => cs = [.nils] ∨ ∃ es, cs = [.sl false (P.cellsOf e) es] ∧ es.length ≤ maxLen ∧ ∀ x ∈ es, okE (P.cellsOf e) x = true ∧ ∃ xs, elemOf P e xs x ∧ hasCs n e xs
    | some (.struct fs) => hasFs (hasCs n) fs.toList cs
    | some (.array k e) => hasAs (hasCs n e) k cs
    | _ => False
def hasT (n : Nat) (t : TypeId) (c : AV) : Prop := ∃ cs, elemOf P t cs c ∧ hasCs P n t cs
end
def Reads (P : Program) (W : World) (n : Nat) (t : TypeId) (cs : List Value) : Prop :=
  ∃ as, VRs rho0 W as cs ∧ hasCs P n t as ∧ (∀ a ∈ as, a.one = true) ∧ AVs.inb 0 as = true ∧ as.length = P.cellsOf t
theorem VRs.take {ρ : Rho} {w : World} {as : List AV} {cs : List Value} (h : VRs ρ w as cs) (k : Nat) : VRs ρ w (as.take k) (cs.take k) := by
  refine ⟨by simp [h.1], fun i c v hc hv => ?_⟩
  rw [List.getElem?_take] at hc hv
  split at hc
  · rename_i hi; rw [if_pos hi] at hv; exact h.2 i c v hc hv
  · cases hc
theorem inb_append {h : Nat} {xs ys : List AV} (h1 : AVs.inb h xs = true) (h2 : AVs.inb h ys = true) : AVs.inb h (xs ++ ys) = true := by
  rw [AVs.inb_iff] at *
  intro c hc
  rcases List.mem_append.1 hc with h | h
  · exact h1 c h
  · exact h2 c h
theorem addr_add {b o k : Nat} : Addr.add ⟨b, o, none⟩ k = ⟨b, o + k, none⟩ := by
  unfold Addr.add; split
  · rename_i h; subst h; rfl
  · rfl
theorem cell_spot {w : World} {a : Addr} {v : Value} (h : w.cell? a = some v) : a.spot = none ∧ a.block < w.heap.size := by
  unfold World.cell? at h
  split at h
  · rename_i hb
    split at h
    · cases h
    · rename_i hs
      exact ⟨by simpa using hs, (Array.getElem?_eq_some_iff.1 hb).1⟩
  · cases h
section
variable {H : Type} {enc : TypeId × Value → H} {P : Program} {W : World} {base : Nat} {spare : Nat → Bool} {held : Bool}
theorem fields_read {n fuel : Nat} (ih : ∀ t cs x, plainT P n t = true → DataW.trod enc P W base spare held fuel t cs = some x → Reads P W n t cs) (cs : List Value) :
    ∀ (fs : List Field) (o : Nat) (xs : List (DataW H × List MemPlace)), tileB P fs o cs.length = true → (fs.all fun f => plainT P n f.type) = true →
      (fs.mapM fun f => DataW.trod enc P W base spare held fuel f.type ((cs.drop f.offset).take (P.cellsOf f.type))) = some xs →
      ∃ as, VRs rho0 W as (cs.drop o) ∧ hasFs (hasCs P n) fs as ∧ (∀ a ∈ as, a.one = true) ∧ AVs.inb 0 as = true ∧ as.length + o = cs.length
  | [], o, xs, ht, _, _ => by
    simp only [tileB, beq_iff_eq] at ht
    subst ht
    exact ⟨[], by simp [VRs.nil], rfl, by simp, rfl, by simp⟩
  | f :: fs, o, xs, ht, hp, h => by
    simp only [tileB, Bool.and_eq_true, beq_iff_eq] at ht
    simp only [List.all_cons, Bool.and_eq_true] at hp
    rw [List.mapM_cons] at h
    obtain ⟨x, hx, h⟩ := Option.bind_eq_some_iff.1 h
    obtain ⟨xs', hxs, h⟩ := Option.bind_eq_some_iff.1 h
    obtain ⟨as, v1, v2, v3, v4, v5⟩ := ih _ _ _ hp.1 hx
    obtain ⟨bs, b1, b2, b3, b4, b5⟩ := fields_read ih cs fs _ xs' ht.2 hp.2 hxs
    rw [ht.1] at v1
    refine ⟨as ++ bs, ?_, ⟨as, bs, rfl, v2, b2⟩, fun a ha => ?_, inb_append v4 b4, by simp; omega⟩
    · have : cs.drop o = (cs.drop o).take (P.cellsOf f.type) ++ cs.drop (o + P.cellsOf f.type) := by
        rw [← List.drop_drop, List.take_append_drop]
      rw [this]
      exact v1.append b1
    · rcases List.mem_append.1 ha with h | h
      · exact v3 a h
      · exact b3 a h
theorem array_read {n fuel : Nat} {e : TypeId} (ih : ∀ cs x, DataW.trod enc P W base spare held fuel e cs = some x → Reads P W n e cs) (cs : List Value) {xs : List (DataW H × List MemPlace)} {m : Nat}
    (h : ((List.range m).mapM fun i => DataW.trod enc P W base spare held fuel e ((cs.drop (i * P.cellsOf e)).take (P.cellsOf e))) = some xs) (hl : cs.length = m * P.cellsOf e) :
    ∀ (k o : Nat), o + k = m → ∃ as, VRs rho0 W as (cs.drop (o * P.cellsOf e)) ∧ hasAs (hasCs P n e) k as ∧ (∀ a ∈ as, a.one = true) ∧ AVs.inb 0 as = true ∧ as.length = k * P.cellsOf e
  | 0, o, ho => by
    have : cs.drop (o * P.cellsOf e) = [] := by rw [List.drop_eq_nil_iff, hl]; simp at ho; subst ho; exact Nat.le_refl _
    rw [this]
    exact ⟨[], VRs.nil, rfl, by simp, rfl, by simp⟩
  | k + 1, o, ho => by
    have hg := mapM_some_get h o o (List.getElem?_range (by omega))
    obtain ⟨x, hx⟩ : ∃ x, xs[o]? = some x := by
      have := mapM_some_length h
      simp at this
      exact ⟨_, List.getElem?_eq_getElem (by omega)⟩
    rw [hx] at hg
    obtain ⟨as, v1, v2, v3, v4, v5⟩ := ih _ _ hg
    obtain ⟨bs, b1, b2, b3, b4, b5⟩ := array_read ih cs h hl k (o + 1) (by omega)
    refine ⟨as ++ bs, ?_, ⟨as, bs, rfl, v2, b2⟩, fun a ha => ?_, inb_append v4 b4, by rw [List.length_append, v5, b5, Nat.succ_mul]; omega⟩
    · have : cs.drop (o * P.cellsOf e) = (cs.drop (o * P.cellsOf e)).take (P.cellsOf e) ++ cs.drop ((o + 1) * P.cellsOf e) := by
        rw [Nat.succ_mul, ← List.drop_drop, List.take_append_drop]
      rw [this]
      exact v1.append b1
    · rcases List.mem_append.1 ha with h | h
      · exact v3 a h
      · exact b3 a h
theorem elem_of_cells {t : TypeId} {as : List AV} (h3 : ∀ a ∈ as, a.one = true) (h4 : AVs.inb 0 as = true) (h5 : as.length = P.cellsOf t) (hk : isAggT P t = true ∨ P.cellsOf t = 1) :
    ∃ x, elemOf P t as x ∧ okE (P.cellsOf t) x = true ∧ x.cells = as := by
  by_cases ha : isAggT P t = true
  · exact ⟨.agg as, by simp [elemOf, ha], by simp [okE, AV.cells, h5, h4, List.all_eq_true]; exact h3, rfl⟩
  · have h1 := hk.resolve_left ha
    rw [h1] at h5
    obtain ⟨x, rfl⟩ := List.length_eq_one_iff.1 h5
    have hx := h3 x (by simp)
    have hc := one_cells hx
    exact ⟨x, by simp [elemOf, ha], by simp [okE, hc, h1, h4, hx], hc⟩
theorem trod_reads : ∀ (n : Nat) (fuel : Nat) (t : TypeId) (cs : List Value) (x : DataW H × List MemPlace), plainT P n t = true → DataW.trod enc P W base spare held fuel t cs = some x → Reads P W n t cs
  | 0, _, _, _, _, h, _ => by cases h
  | n + 1, 0, _, _, _, _, h => by simp [DataW.trod] at h
  | n + 1, fuel + 1, t, cs, x, hp, h => by
    have ih := fun t cs x => trod_reads n fuel t cs x
    unfold plainT at hp
    have one1 : ∀ {a : AV} {v : Value}, VR rho0 W a v → a.one = true → a.inb 0 = true → P.cellsOf t = 1 → hasCs P (n + 1) t [a] → Reads P W (n + 1) t [v] :=
      fun h1 h2 h3 h4 h5 => ⟨[_], VRs.cons h1 VRs.nil, h5, by simpa using h2, by simp [AVs.inb, h3], h4.symm⟩
    unfold hasCs at one1
    cases hu : P.underlying t with
    | none => rw [hu] at hp; cases hp
    | some D =>
      rw [hu] at hp one1
      cases D with
      | bool =>
        simp only [beq_iff_eq] at hp
        obtain ⟨b, rfl, _⟩ := DataW.trod_bool hu h
        exact one1 (.bool _) rfl rfl hp ⟨_, rfl⟩
      | int k =>
        simp only [beq_iff_eq] at hp
        obtain ⟨b, rfl, _, hw⟩ := DataW.trod_int hu h
        exact one1 (.int _ _) rfl rfl hp ⟨_, rfl, hw⟩
      | string =>
        simp only [beq_iff_eq] at hp
        obtain ⟨b, rfl, _, hw⟩ := DataW.trod_string hu h
        exact one1 (.str _) rfl rfl hp ⟨_, rfl, hw⟩
      | pointer e =>
        simp only [Bool.and_eq_true, beq_iff_eq, decide_eq_true_eq] at hp
        obtain ⟨⟨hp1, hp2⟩, hp3⟩ := hp
        rcases DataW.trod_pointer hu h with ⟨rfl, _⟩ | ⟨a, cs', y, m, hm, rfl, _, hc, hy⟩
        · exact one1 .nilp rfl rfl hp1 (.inl rfl)
        · cases hm
          obtain ⟨as, v1, v2, v3, v4, v5⟩ := ih _ _ _ hp3 hy
          obtain ⟨_, hl, hcell⟩ := World.cells?_some hc
          have h0 : ∃ v0, cs'[0]? = some v0 := ⟨_, List.getElem?_eq_getElem (by omega)⟩
          obtain ⟨v0, h0⟩ := h0
          have hsp := cell_spot ((hcell 0 hp2).trans h0)
          obtain ⟨b, o, sp⟩ := a
          have hsp' : sp = none ∧ b < W.heap.size := by simpa [Addr.add] using hsp
          obtain ⟨rfl, hb⟩ := hsp'
          have hat : ∀ (j : Nat) (c : AV), as[j]? = some c → ∃ v, cs'[j]? = some v ∧ W.cell? ⟨b, o + j, none⟩ = some v ∧ VR rho0 W c v := fun j c hj => by
            have hjl : j < as.length := (List.getElem?_eq_some_iff.1 hj).1
            have hv : cs'[j]? = some cs'[j] := List.getElem?_eq_getElem (by omega)
            refine ⟨_, hv, ?_, v1.2 j c _ hj hv⟩
            rw [← hv, ← hcell j (by omega), addr_add]
          refine one1 (.rptr as 0 b o (fun j => (cs'[j]?).getD undef) hb (free0 _) (fun j c hj => ?_) (fun j c hj => ?_) v4) rfl (by simp [AV.inb]) hp1 (.inr ⟨as, rfl, v2⟩)
          · obtain ⟨v, e1, e2, e3⟩ := hat j c hj; rw [e1]; exact e2
          · obtain ⟨v, e1, e2, e3⟩ := hat j c hj; rw [e1]; exact e3
      | slice e =>
        simp only [Bool.and_eq_true, beq_iff_eq, decide_eq_true_eq, Bool.or_eq_true] at hp
        obtain ⟨⟨⟨hp1, hp2⟩, hk⟩, hp3⟩ := hp
        rcases DataW.trod_slice hu h with ⟨rfl, _⟩ | ⟨a, len, cap, elems, rest, m, hm, rfl, _, _, hlc, hcm, hel, hget, _⟩
        · exact one1 .nils rfl rfl hp1 (.inl rfl)
        · cases hm
          have hall : ∀ i, i < len → ∃ (e' : AV) (f : Nat → Value), okE (P.cellsOf e) e' = true ∧ (∃ xs, elemOf P e xs e' ∧ hasCs P n e xs) ∧ (a.spot = none ∧ a.block < W.heap.size) ∧
              ∀ (j : Nat) (c : AV), e'.cells[j]? = some c → W.cell? ⟨a.block, a.off + i * P.cellsOf e + j, none⟩ = some (f j) ∧ VR rho0 W c (f j) := fun i hi => by
            have hg := hget i hi
            have hx : elems[i]? = some elems[i] := List.getElem?_eq_getElem (by omega)
            rw [hx] at hg
            obtain ⟨cs', hc, hy⟩ := Option.bind_eq_some_iff.1 hg
            obtain ⟨as, v1, v2, v3, v4, v5⟩ := ih _ _ _ hp3 hy
            obtain ⟨_, hl, hcell⟩ := World.cells?_some hc
            obtain ⟨e', e1, e2, e3⟩ := elem_of_cells (P := P) v3 v4 v5 hk
            have h0 : ∃ v0, cs'[0]? = some v0 := ⟨_, List.getElem?_eq_getElem (by omega)⟩
            obtain ⟨v0, h0⟩ := h0
            have hsp := cell_spot ((hcell 0 hp2).trans h0)
            obtain ⟨b, o, sp⟩ := a
            have hsp' : (i = 0 → sp = none) ∧ b < W.heap.size := by
              refine ⟨fun hi0 => ?_, ?_⟩
              · subst hi0; simpa [Addr.add] using hsp.1
              · have := hsp.2; simp only [Addr.add] at this; split at this <;> (try split at this) <;> exact this
            have h1 : ∀ i', i' < len → i' = 0 → sp = none := fun i' hi' h0' => by
              subst h0'
              have hg := hget 0 hi'
              have hx : elems[0]? = some elems[0] := List.getElem?_eq_getElem (by omega)
              rw [hx] at hg
              obtain ⟨cs', hc, _⟩ := Option.bind_eq_some_iff.1 hg
              obtain ⟨_, hl, hcell⟩ := World.cells?_some hc
              obtain ⟨v0, h0⟩ : ∃ v0, cs'[0]? = some v0 := ⟨_, List.getElem?_eq_getElem (by omega)⟩
              have := (cell_spot ((hcell 0 hp2).trans h0)).1
              simpa [Addr.add] using this
            have hspn : sp = none := h1 0 (by omega) rfl
            subst hspn
            refine ⟨e', fun j => (cs'[j]?).getD undef, e2, ⟨as, e1, v2⟩, ⟨rfl, hsp'.2⟩, fun j c hj => ?_⟩
            rw [e3] at hj
            have hjl : j < as.length := (List.getElem?_eq_some_iff.1 hj).1
            have hv : cs'[j]? = some cs'[j] := List.getElem?_eq_getElem (by omega)
            have hcj := hcell j (by omega)
            rw [addr_add, addr_add] at hcj
            have hF : (cs'[j]?).getD undef = cs'[j] := by rw [hv]; rfl
            show _ = some ((cs'[j]?).getD undef) ∧ VR rho0 W c ((cs'[j]?).getD undef)
            rw [hF]
            exact ⟨by rw [hcj, hv], v1.2 j c _ hj hv⟩
          have hch : ∃ (es : List AV) (F : Nat → Nat → Value), es.length = len ∧ ∀ (i : Nat) (e' : AV), es[i]? = some e' → okE (P.cellsOf e) e' = true ∧ (∃ xs, elemOf P e xs e' ∧ hasCs P n e xs) ∧ (a.spot = none ∧ a.block < W.heap.size) ∧
              ∀ (j : Nat) (c : AV), e'.cells[j]? = some c → W.cell? ⟨a.block, a.off + i * P.cellsOf e + j, none⟩ = some (F i j) ∧ VR rho0 W c (F i j) := by
            refine ⟨(List.range len).map fun i => if hi : i < len then (hall i hi).choose else .nils, fun i => if hi : i < len then (hall i hi).choose_spec.choose else fun _ => undef, by simp, fun i e' he => ?_⟩
            have hi : i < len := by have := (List.getElem?_eq_some_iff.1 he).1; simpa using this
            rw [List.getElem?_map, List.getElem?_range hi] at he
            simp only [Option.map_some, hi, dif_pos, Option.some.injEq] at he
            subst he
            simp only [hi, dif_pos]
            exact (hall i hi).choose_spec.choose_spec
          obtain ⟨es, F, hlen, hes⟩ := hch
          subst hlen
          refine one1 (.sl false (P.cellsOf e) es a cap F hlc (fun h => by cases h) (fun hne => ?_) (fun e' he => ?_) (fun i e' j c hi hj => ((hes i e' hi).2.2.2 j c hj).1) (fun i e' j c hi hj => ((hes i e' hi).2.2.2 j c hj).2)) rfl (by simp [AV.inb]) hp1
            (.inr ⟨es, rfl, Nat.le_trans hlc hcm, fun e' he => ?_⟩)
          · cases es with
            | nil => exact absurd rfl hne
            | cons e' es => have := (hes 0 e' rfl).2.2.1; exact ⟨this.1, this.2, free0 _⟩
          · obtain ⟨i, hi, rfl⟩ := List.getElem_of_mem he
            exact (hes i _ (List.getElem?_eq_getElem hi)).1
          · obtain ⟨i, hi, rfl⟩ := List.getElem_of_mem he
            have := hes i _ (List.getElem?_eq_getElem hi)
            exact ⟨this.1, this.2.1⟩
      | struct fs =>
        simp only [Bool.and_eq_true] at hp
        unfold DataW.trod at h
        rw [hu] at h
        simp only at h
        split at h
        · rename_i hl
          obtain ⟨xs, hxs, _⟩ := Option.map_eq_some_iff.1 h
          obtain ⟨as, b1, b2, b3, b4, b5⟩ := fields_read ih cs fs.toList 0 xs (by rw [hl]; exact hp.1) hp.2 hxs
          refine ⟨as, by simpa using b1, ?_, b3, b4, by omega⟩
          unfold hasCs
          rw [hu]
          exact b2
        · cases h
      | array k e =>
        simp only [Bool.and_eq_true, beq_iff_eq, decide_eq_true_eq] at hp
        obtain ⟨⟨hp1, hp2⟩, hp3⟩ := hp
        unfold DataW.trod at h
        rw [hu] at h
        simp only at h
        split at h
        · rename_i hl
          obtain ⟨xs, hxs, _⟩ := Option.map_eq_some_iff.1 h
          obtain ⟨as, b1, b2, b3, b4, b5⟩ := array_read (fun cs x hx => ih _ _ _ hp3 hx) cs hxs (by rw [hl, hp1]) k 0 (by omega)
          refine ⟨as, by simpa using b1, ?_, b3, b4, by omega⟩
          unfold hasCs
          rw [hu]
          exact b2
        · cases h
      | _ => cases hp
theorem cell_not_agg {w : World} {r : Reach} {t : TypeId} {cs : Array Value} (h : Cell.okWide P w r base t (.agg cs)) (hp : ∃ D, P.underlying t = some D ∧ (D = .bool ∨ (∃ k, D = .int k) ∨ D = .string ∨ (∃ e, D = .pointer e) ∨ ∃ e, D = .slice e)) : False := by
  obtain ⟨D, hu, hD⟩ := hp
  unfold Cell.okWide at h
  rw [hu] at h
  rcases hD with rfl | ⟨k, rfl⟩ | rfl | ⟨e, rfl⟩ | ⟨e, rfl⟩ <;> simp [Cell.ok, hu] at h
theorem arg_reads {n : Nat} {t : TypeId} {v : Value} {d : DataW H} {ps : List MemPlace} {r : Reach} {b : Nat} (hp : plainT P n t = true) (hok : Value.okWide P W r b t v) (h : DataW.Trod enc P W base spare held t v d ps) : ∃ c, VR rho0 W c v ∧ hasT P n t c := by
  obtain ⟨fuel, h⟩ := h
  obtain ⟨as, v1, v2, v3, v4, v5⟩ := trod_reads n fuel t _ _ hp h
  unfold Value.okWide at hok
  cases n with
  | zero => cases hp
  | succ n =>
    by_cases ha : isAggT P t = true
    · refine ⟨.agg as, ?_, as, by simp [elemOf, ha], v2⟩
      have : ∃ cs, v = .agg cs := by
        unfold isAggT at ha
        cases hu : P.underlying t with
        | none => rw [hu] at ha; cases ha
        | some D =>
          rw [hu] at ha hok
          cases D <;> first | (cases ha; done) | (obtain ⟨cs, h1, _⟩ := hok; exact ⟨cs, h1⟩)
      obtain ⟨cs, rfl⟩ := this
      exact .agg as cs (by simpa [Value.cells] using v1.1) (fun i c u hc hu => v1.2 i c u hc (by simpa [Value.cells] using hu))
    · have hna : ∃ D, P.underlying t = some D ∧ (D = .bool ∨ (∃ k, D = .int k) ∨ D = .string ∨ (∃ e, D = .pointer e) ∨ ∃ e, D = .slice e) := by
        unfold isAggT at ha
        unfold plainT at hp
        cases hu : P.underlying t with
        | none => rw [hu] at hp; cases hp
        | some D =>
          rw [hu] at ha hp
          cases D <;> first | (cases hp; done) | (exfalso; exact ha rfl) | exact ⟨_, rfl, by simp⟩
      have hcell : Cell.okWide P W r b t v := by
        obtain ⟨D, hu, hD⟩ := hna
        rw [hu] at hok
        rcases hD with rfl | ⟨k, rfl⟩ | rfl | ⟨e, rfl⟩ | ⟨e, rfl⟩ <;> exact hok
      have hv : v.cells.toList = [v] := by
        cases v with
        | agg cs => exact (cell_not_agg hcell hna).elim
        | _ => rfl
      rw [hv] at v1
      obtain ⟨a, rfl⟩ : ∃ a, as = [a] := List.length_eq_one_iff.1 (by have := v1.1; simpa using this)
      exact ⟨a, v1.2 0 a v rfl rfl, [a], by simp [elemOf, ha], v2⟩
end
end Go.Abs
end
section
namespace Go.Abs
open Go.ChangeShapes Go.WideShapes Go.ChangeAt Go.RowKit
def hasTs (P : Program) (k : Nat) : List TypeId → List AV → Prop
  | [], cs => cs = []
  | t :: ts, cs => ∃ c cs', cs = c :: cs' ∧ hasT P k t c ∧ hasTs P k ts cs'
section
variable {H : Type} {enc : TypeId × Value → H} {P : Program} {W : World} {base : Nat} {spare : Nat → Bool} {held : Bool}
theorem args_read {k : Nat} {r : Reach} {b : Nat} : ∀ (ts : List TypeId) (vs : List Value) (ds : List (DataW H)) (ps : List MemPlace), (ts.all fun t => plainT P k t) = true →
    (∀ (j : Nat) t v, ts[j]? = some t → vs[j]? = some v → Value.okWide P W r b t v) → DataW.TrodAll enc P W base spare held ts vs ds ps → ∃ cs, VRs rho0 W cs vs ∧ hasTs P k ts cs ∧ ds.length = ts.length
  | [], vs, ds, ps, _, _, h => by
    obtain ⟨rfl, rfl, rfl⟩ := trodAll_nil h
    exact ⟨[], VRs.nil, rfl, rfl⟩
  | t :: ts, vs, ds, ps, hp, hok, h => by
    obtain ⟨v, vs', d, ds', p, q, rfl, rfl, rfl, h1, h2⟩ := trodAll_cons h
    simp only [List.all_cons, Bool.and_eq_true] at hp
    obtain ⟨c, c1, c2⟩ := arg_reads hp.1 (hok 0 t v rfl rfl) h1
    obtain ⟨cs, e1, e2, e3⟩ := args_read ts vs' ds' q hp.2 (fun j t v hj hv => hok (j + 1) t v (by simpa using hj) (by simpa using hv)) h2
    exact ⟨c :: cs, VRs.cons c1 e1, ⟨c, cs, rfl, c2, e2⟩, by simp [e3]⟩
theorem args_stay (hl : laidOutB P = true) {W' : World} (hb : Below W.heap.size W W') : ∀ (ts : List TypeId) (vs : List Value) (ds : List (DataW H)) (ps : List MemPlace), (ts.all fun t => P.readableRec t && decide (t < P.types.size)) = true →
    DataW.TrodAll enc P W 0 (fun _ => true) true ts vs ds ps → (∀ x ∈ ps, x.block < W.heap.size) → DataW.TrodAll enc P W' 0 (fun b => decide (b < W.heap.size)) true ts vs ds ps
  | [], vs, ds, ps, _, h, _ => by
    obtain ⟨rfl, rfl, rfl⟩ := trodAll_nil h
    exact rfl
  | t :: ts, vs, ds, ps, hp, h, hlt => by
    obtain ⟨v, vs', d, ds', p, q, rfl, rfl, rfl, h1, h2⟩ := trodAll_cons h
    simp only [List.all_cons, Bool.and_eq_true, decide_eq_true_eq] at hp
    exact ⟨p, q, Below.trod hl hp.1.1 hp.1.2 h1 hb (fun x hx => hlt x (by simp [hx])), args_stay hl hb ts vs' ds' q hp.2 h2 (fun x hx => hlt x (by simp [hx])), rfl⟩
end
def shapeOk (P : Program) (k : Nat) (fn : Func) : Bool :=
  (fn.params.toList.all fun t => plainT P k t) && (fn.params.toList.all fun t => P.readableRec t && decide (t < P.types.size)) &&
    match fn.resultTypes.toList with
    | [t] => (match P.underlying t with | some .bool => true | _ => false)
    | _ => false
theorem calls_of_abs {P : Program} {how : FuncId → Option How} (hm : P.follows .mixedOrders = true) (hw : HowOk P how) {n : Nat} {f : FuncId} {cs : List AV} {σ' : AS} {args : Array Value} {W : World} (hg : GlbOk W)
    (hv : VRs rho0 W cs args.toList) (h : callN P how n f cs ⟨[], []⟩ none = some (.bool true, σ')) : Calls P f args W fun e w' => e = .returned (.bool true) ∧ Below W.heap.size W w' := by
  have := (callN_ok hm hw n).snd f cs ⟨[], []⟩ none _ _ h rho0 W args.toList (SR.start hg) hv
  refine this.mono fun e w' ⟨ρ', u, he, x, _, hu⟩ => ?_
  cases hu
  exact ⟨he, x.os, x.tape, x.output, x.size, fun b hb => (x.free b hb (free0 b)).2⟩
theorem law_post {H : Type} {enc : TypeId × Value → H} {P : Program} {fn : Func} {s : ChangeSpec} {k : Nat} {W W' : World} {args : Array Value} {ds gs : List (DataW H)} {before : List MemPlace}
    (hl : laidOutB P = true) (hsh : shapeOk P k fn = true) (hvars : s.vars = [])
    (hspec : ∀ (H : Type) (ds : List (DataW H)), ds.length = fn.params.size → s.fn H ds = { results := [.lit (.bool true)], args := ds })
    (hW : DataW.Whole enc P fn.params.toList s.vars false W args.toList ds gs before) (hlen : ds.length = fn.params.size) (hb : Below W.heap.size W W') :
    s.post enc P fn false true false false W args (.bool true) W' := by
  have hlt := hW.lt
  have hW' := hW
  obtain ⟨p, q, hA, hV, rfl, hfz, hnd⟩ := hW
  rw [hvars] at hV
  obtain ⟨rfl, rfl⟩ := trodVars_none hV
  simp only [shapeOk, Bool.and_eq_true] at hsh
  obtain ⟨⟨_, h2⟩, h3⟩ := hsh
  simp only [List.append_nil] at hW' hlt ⊢
  have hfn := hspec H ds hlen
  refine ⟨ds, [], p, [], p, [], hW', ?_, ?_, ?_, hb.frame _, fun h => by cases h⟩
  · simp only [List.append_nil]
    rw [hfn]
    cases hr : fn.resultTypes.toList with
    | nil => rw [hr] at h3; cases h3
    | cons t ts =>
      cases ts with
      | cons _ _ => rw [hr] at h3; cases h3
      | nil =>
        rw [hr] at h3
        have hsz : fn.resultTypes.size = 1 := by rw [← Array.length_toList, hr]; rfl
        rw [hsz]
        have hu : P.underlying t = some .bool := by
          simp only at h3
          split at h3
          · assumption
          · cases h3
        exact trodAll_mk1 (shut_bool hu true)
  · simp only [List.append_nil]
    rw [hfn]
    exact args_stay hl hb _ _ _ _ h2 hA hlt
  · simp only [List.append_nil]
    rw [hfn, hvars]
    exact rfl
theorem law_lifted {C : Checked} {how : FuncId → Option How} (hm : C.prog.follows .mixedOrders = true) (hw : HowOk C.prog how) (k : Nat) {f : FuncId} {fn : Func} {s : ChangeSpec} (os : Os) (started : os.Started) {H : Type} {enc : TypeId × Value → H}
    (own : ownKnob C.prog.godebug = none) (noInit : C.prog.inits.idxOf? f = none) (hfn : C.prog.funcs[f]? = some fn) (hl : laidOutB C.prog = true) (hsh : shapeOk C.prog k fn = true) (hvars : s.vars = [])
    (hspec : ∀ (H : Type) (ds : List (DataW H)), ds.length = fn.params.size → s.fn H ds = { results := [.lit (.bool true)], args := ds })
    (witness : ∃ (w : World) (tape : Tape) (i : Input), w.os = os ∧ (w.forCall tape i).Shaped C.prog ∧ i.vars = [] ∧ Input.okWide C.prog (w.forCall tape i) .any w.heap.size f i ∧
      s.pre6 enc C.prog fn [] false (w.forCall tape i).memory i.args ∧ (({} : Assume)).holds C.prog (lone (Frame.enter C.prog f i.args .normal) [] (w.forCall tape i)))
    (hrun : ∀ cs, hasTs C.prog k fn.params.toList cs → ∃ n σ', callN C.prog how n f cs ⟨[], []⟩ none = some (.bool true, σ')) (hglb : glbCells = [] := by rfl) :
    ReturnsInHanded {} C os f .any (s.pre6 enc C.prog fn [] false) (s.post enc C.prog fn false true false false) := by
  refine returnsInHanded_of_change (C := C) own started noInit hfn witness ?_
  intro W base args ds gs before hval hW _ _
  have hW' := hW
  obtain ⟨p, q, hA, hV, hpq, _⟩ := hW
  have hsh' := hsh
  simp only [shapeOk, Bool.and_eq_true] at hsh
  obtain ⟨cs, c1, c2, c3⟩ := args_read fn.params.toList args.toList ds p hsh.1.1 (fun j t v hj hv => hval j t v (by simpa using hj) (by simpa using hv)) hA
  obtain ⟨n, σ', hr⟩ := hrun cs c2
  exact (calls_of_abs hm hw (GlbOk.none hglb W) c1 hr).mono fun e W' ⟨he, hb⟩ => ⟨_, he, law_post hl hsh' hvars hspec hW' (by simpa using c3) hb⟩
end Go.Abs
end
section
namespace Go.Abs
section
variable {P : Program} {cx : Cx} {tails : List Nat}
def Sub (call call' : Caller) : Prop := ∀ f a σ ro r, call f a σ ro = some r → call' f a σ ro = some r
theorem effA_mono {call call' : Caller} (hs : Sub call call') {σ : AS} {env : Env} {o : Oper} {r : AV × AS} (h : effA P cx call σ env o = some r) : effA P cx call' σ env o = some r := by
  unfold effA at h ⊢
  split at h <;> try exact h
  rename_i f args ats
  split at h
  · rename_i f' as' h1 h2
    split at h
    · rename_i g gs hc
      exact hs _ _ _ _ _ h
    · cases h
  · cases h
theorem effA_cont {calls : Nat → Caller} {callW : Caller} (hw : ∀ f a σ ro r, callW f a σ ro = some r → ∃ n, calls n f a σ ro = some r) {σ : AS} {env : Env} {o : Oper} {r : AV × AS} (h : effA P cx callW σ env o = some r) :
    ∃ n, effA P cx (calls n) σ env o = some r := by
  unfold effA at h ⊢
  split at h <;> try exact ⟨0, h⟩
  rename_i f args ats
  split at h
  · rename_i f' as' h1 h2
    split at h
    · rename_i g gs hc
      obtain ⟨n, hn⟩ := hw _ _ _ _ _ h
      exact ⟨n, by simp only [hn]⟩
    · cases h
  · cases h
theorem seqA_mono {call call' : Caller} (hs : Sub call call') {all : List Oper} : ∀ (os : List Oper) (env : Env) (σ : AS) (r : Env × AS), seqA P cx call all os env σ = some r → seqA P cx call' all os env σ = some r
  | [], env, σ, r, h => h
  | o :: os, env, σ, r, h => by
    have ih := seqA_mono hs (all := all) os
    simp only [seqA] at h ⊢
    split at h
    · rename_i hw
      rw [if_pos hw]
      split at h
      · rename_i hv
        rw [if_pos hv]
        split at h
        · rename_i ho
          rw [if_pos ho]
          split at h
          · rename_i v hva
            exact ih _ _ _ h
          · cases h
        · cases h
      · rename_i hv
        rw [if_neg hv]
        split at h
        · rename_i v σ' he
          rw [effA_mono hs he]
          exact ih _ _ _ h
        · cases h
    · rename_i hw
      rw [if_neg hw]
      exact ih _ _ _ h
theorem qstep_mono {call call' : Caller} (hs : Sub call call') {all : List Oper} {σ : AS} {k kh : Nat} {env : Env} {o : Oper} {r : AV × Option AObj} (h : qstep P cx call σ all k kh env o = some r) : qstep P cx call' σ all k kh env o = some r := by
  unfold qstep at h ⊢
  split at h
  · rename_i hw
    rw [if_pos hw]
    split at h
    · rename_i hv; rw [if_pos hv]; exact h
    · rename_i hv
      rw [if_neg hv]
      split at h
      · rename_i hn; rw [if_pos hn]; exact h
      · rename_i hn
        rw [if_neg hn]
        split at h
        · rename_i f args ats hop
          split at h
          · rename_i f' as' h1 h2
            split at h
            · rename_i g gs hc
              split at h
              · rename_i hcond
                rw [if_pos hcond]
                split at h
                · rename_i v σ1 hcall
                  rw [hs _ _ _ _ _ hcall]
                  exact h
                · cases h
              · cases h
            · cases h
          · cases h
        · cases h
  · rename_i hw; rw [if_neg hw]; exact h
theorem qstep_cont {calls : Nat → Caller} {callW : Caller} (hw : ∀ f a σ ro r, callW f a σ ro = some r → ∃ n, calls n f a σ ro = some r) {all : List Oper} {σ : AS} {k kh : Nat} {env : Env} {o : Oper} {r : AV × Option AObj} (h : qstep P cx callW σ all k kh env o = some r) :
    ∃ n, qstep P cx (calls n) σ all k kh env o = some r := by
  unfold qstep at h ⊢
  split at h
  · rename_i hw1
    simp only [if_pos hw1]
    split at h
    · rename_i hv; simp only [if_pos hv]; exact ⟨0, h⟩
    · rename_i hv
      simp only [if_neg hv]
      split at h
      · rename_i hn; simp only [if_pos hn]; exact ⟨0, h⟩
      · rename_i hn
        simp only [if_neg hn]
        split at h
        · rename_i f args ats hop
          split at h
          · rename_i f' as' h1 h2
            split at h
            · rename_i g gs hc
              split at h
              · rename_i hcond
                split at h
                · rename_i v σ1 hcall
                  obtain ⟨n, hn⟩ := hw _ _ _ _ _ hcall
                  exact ⟨n, by simp only [if_pos hcond, hn]; exact h⟩
                · cases h
              · cases h
            · cases h
          · cases h
        · cases h
  · rename_i hw1; simp only [if_neg hw1]; exact ⟨0, h⟩
theorem quietA_mono {call call' : Caller} (hs : Sub call call') {all : List Oper} {σ : AS} : ∀ (os : List Oper) (env : Env) (ns nh : List AObj) (r : Env × List AObj × List AObj), quietA P cx call σ all os env ns nh = some r → quietA P cx call' σ all os env ns nh = some r
  | [], env, ns, nh, r, h => h
  | o :: os, env, ns, nh, r, h => by
    have ih := quietA_mono hs (all := all) (σ := σ) os
    simp only [quietA] at h ⊢
    split at h
    · rename_i v hq
      rw [qstep_mono hs hq]
      exact ih _ _ _ _ h
    · rename_i v ob hq
      rw [qstep_mono hs hq]
      simp only
      split at h
      · rename_i he; rw [if_pos he]; exact ih _ _ _ _ h
      · rename_i he; rw [if_neg he]; exact ih _ _ _ _ h
    · cases h
variable {calls : Nat → Caller} {callW : Caller}
theorem seqA_cont (hch : ∀ n m, n ≤ m → Sub (calls n) (calls m)) (hw : ∀ f a σ ro r, callW f a σ ro = some r → ∃ n, calls n f a σ ro = some r) {all : List Oper} : ∀ (os : List Oper) (env : Env) (σ : AS) (r : Env × AS), seqA P cx callW all os env σ = some r → ∃ n, seqA P cx (calls n) all os env σ = some r
  | [], env, σ, r, h => ⟨0, h⟩
  | o :: os, env, σ, r, h => by
    have ih := seqA_cont hch hw (all := all) os
    simp only [seqA] at h ⊢
    split at h
    · rename_i hw1
      simp only [if_pos hw1]
      split at h
      · rename_i hv
        simp only [if_pos hv]
        split at h
        · rename_i ho
          simp only [if_pos ho]
          split at h
          · rename_i v hva
            exact ih _ _ _ h
          · cases h
        · cases h
      · rename_i hv
        simp only [if_neg hv]
        split at h
        · rename_i v σ' he
          obtain ⟨n1, h1⟩ := effA_cont hw he
          obtain ⟨n2, h2⟩ := ih _ _ _ h
          refine ⟨max n1 n2, ?_⟩
          rw [effA_mono (hch _ _ (Nat.le_max_left _ _)) h1]
          exact seqA_mono (hch _ _ (Nat.le_max_right _ _)) _ _ _ _ h2
        · cases h
    · rename_i hw1
      simp only [if_neg hw1]
      exact ih _ _ _ h
theorem quietA_cont (hch : ∀ n m, n ≤ m → Sub (calls n) (calls m)) (hw : ∀ f a σ ro r, callW f a σ ro = some r → ∃ n, calls n f a σ ro = some r) {all : List Oper} {σ : AS} : ∀ (os : List Oper) (env : Env) (ns nh : List AObj) (r : Env × List AObj × List AObj),
    quietA P cx callW σ all os env ns nh = some r → ∃ n, quietA P cx (calls n) σ all os env ns nh = some r
  | [], env, ns, nh, r, h => ⟨0, h⟩
  | o :: os, env, ns, nh, r, h => by
    have ih := quietA_cont hch hw (all := all) (σ := σ) os
    simp only [quietA] at h ⊢
    split at h
    · rename_i v hq
      obtain ⟨n1, h1⟩ := qstep_cont hw hq
      obtain ⟨n2, h2⟩ := ih _ _ _ _ h
      refine ⟨max n1 n2, ?_⟩
      rw [qstep_mono (hch _ _ (Nat.le_max_left _ _)) h1]
      exact quietA_mono (hch _ _ (Nat.le_max_right _ _)) _ _ _ _ _ h2
    · rename_i v ob hq
      obtain ⟨n1, h1⟩ := qstep_cont hw hq
      split at h
      · rename_i he
        obtain ⟨n2, h2⟩ := ih _ _ _ _ h
        refine ⟨max n1 n2, ?_⟩
        rw [qstep_mono (hch _ _ (Nat.le_max_left _ _)) h1]
        simp only [if_pos he]
        exact quietA_mono (hch _ _ (Nat.le_max_right _ _)) _ _ _ _ _ h2
      · rename_i he
        obtain ⟨n2, h2⟩ := ih _ _ _ _ h
        refine ⟨max n1 n2, ?_⟩
        rw [qstep_mono (hch _ _ (Nat.le_max_left _ _)) h1]
        simp only [if_neg he]
        exact quietA_mono (hch _ _ (Nat.le_max_right _ _)) _ _ _ _ _ h2
    · cases h
theorem cutCall_mono {call call' : Caller} (hs : Sub call call') {σ0 : AS} {ops : List Oper} {o : Oper} {e : Env} {σ : AS} {r : AV × AS} (h : cutCall cx call σ0 ops o e σ = some r) : cutCall cx call' σ0 ops o e σ = some r := by
  unfold cutCall at h ⊢
  split at h
  · split at h
    · split at h
      · split at h
        · rename_i hc
          rw [if_pos hc]
          split at h
          · rename_i v σ1 hcall
            rw [hs _ _ _ _ _ hcall]
            exact h
          · cases h
        · cases h
      · cases h
    · cases h
  · cases h
theorem cutCall_cont {calls : Nat → Caller} {callW : Caller} (hw : ∀ f a σ ro r, callW f a σ ro = some r → ∃ n, calls n f a σ ro = some r) {σ0 : AS} {ops : List Oper} {o : Oper} {e : Env} {σ : AS} {r : AV × AS} (h : cutCall cx callW σ0 ops o e σ = some r) : ∃ n, cutCall cx (calls n) σ0 ops o e σ = some r := by
  unfold cutCall at h ⊢
  split at h
  · split at h
    · split at h
      · split at h
        · rename_i hc
          split at h
          · rename_i v σ1 hcall
            obtain ⟨n, hn⟩ := hw _ _ _ _ _ hcall
            exact ⟨n, by rw [if_pos hc, hn]; exact h⟩
          · cases h
        · cases h
      · cases h
    · cases h
  · cases h
theorem mres_mono {call call' : Caller} (hs : Sub call call') {σ0 : AS} {ops : List Oper} {pre : Bool} {chk : Option Env} {i : Nat} {o : Oper} {e : Env} {σ : AS} {k : Nat} {r : AV × AS × Nat} (h : mres P cx call σ0 ops pre chk i o e σ k = some r) : mres P cx call' σ0 ops pre chk i o e σ k = some r := by
  by_cases c3 : clsM P ops i o = 3
  · rw [mres_eq_new c3] at h ⊢
    exact h
  · by_cases c4 : clsM P ops i o = 4
    · rw [mres_eq_T c4] at h ⊢
      split at h
      · rename_i hb
        rw [if_pos hb]
        by_cases hw : wantedA ops e o = true
        · rw [if_pos hw] at h ⊢
          cases he : effA P cx call σ e o with
          | none => rw [he] at h; cases h
          | some r2 =>
            rw [he] at h
            rw [effA_mono hs he]
            exact h
        · rw [if_neg hw] at h ⊢
          exact h
      · cases h
    · by_cases c5 : clsM P ops i o = 5
      · rw [mres_eq_C c5] at h ⊢
        split at h
        · rename_i hb
          rw [if_pos hb]
          by_cases hw : wantedA ops e o = true
          · rw [if_pos hw] at h ⊢
            cases he : cutCall cx call σ0 ops o e σ with
            | none => rw [he] at h; cases h
            | some r2 =>
              rw [he] at h
              rw [cutCall_mono hs he]
              exact h
          · rw [if_neg hw] at h ⊢
            exact h
        · cases h
      · rw [mres_eq_read c3 c4 c5] at h ⊢
        exact h
theorem mres_cont {calls : Nat → Caller} {callW : Caller} (hw : ∀ f a σ ro r, callW f a σ ro = some r → ∃ n, calls n f a σ ro = some r) {σ0 : AS} {ops : List Oper} {pre : Bool} {chk : Option Env} {i : Nat} {o : Oper} {e : Env} {σ : AS} {k : Nat} {r : AV × AS × Nat} (h : mres P cx callW σ0 ops pre chk i o e σ k = some r) : ∃ n, mres P cx (calls n) σ0 ops pre chk i o e σ k = some r := by
  by_cases c3 : clsM P ops i o = 3
  · rw [mres_eq_new c3] at h
    exact ⟨0, by rw [mres_eq_new c3]; exact h⟩
  · by_cases c4 : clsM P ops i o = 4
    · rw [mres_eq_T c4] at h
      split at h
      · rename_i hb
        by_cases hwt : wantedA ops e o = true
        · rw [if_pos hwt] at h
          cases he : effA P cx callW σ e o with
          | none => rw [he] at h; cases h
          | some r2 =>
            rw [he] at h
            obtain ⟨n, hn⟩ := effA_cont hw he
            exact ⟨n, by rw [mres_eq_T c4, if_pos hb, if_pos hwt, hn]; exact h⟩
        · rw [if_neg hwt] at h
          exact ⟨0, by rw [mres_eq_T c4, if_pos hb, if_neg hwt]; exact h⟩
      · cases h
    · by_cases c5 : clsM P ops i o = 5
      · rw [mres_eq_C c5] at h
        split at h
        · rename_i hb
          by_cases hwt : wantedA ops e o = true
          · rw [if_pos hwt] at h
            cases he : cutCall cx callW σ0 ops o e σ with
            | none => rw [he] at h; cases h
            | some r2 =>
              rw [he] at h
              obtain ⟨n, hn⟩ := cutCall_cont hw he
              exact ⟨n, by rw [mres_eq_C c5, if_pos hb, if_pos hwt, hn]; exact h⟩
          · rw [if_neg hwt] at h
            exact ⟨0, by rw [mres_eq_C c5, if_pos hb, if_neg hwt]; exact h⟩
        · cases h
      · rw [mres_eq_read c3 c4 c5] at h
        exact ⟨0, by rw [mres_eq_read c3 c4 c5]; exact h⟩
theorem ms_mono {call call' : Caller} (hs : Sub call call') {σ0 : AS} {ops : List Oper} {pre : Bool} {chk : Option Env} {i : Nat} {s s' : Env × AS × Nat} (h : ms P cx call σ0 ops pre chk i s = some s') : ms P cx call' σ0 ops pre chk i s = some s' := by
  unfold ms at h ⊢
  cases ho : ops[i]? with
  | none => rw [ho] at h; cases h
  | some o =>
    rw [ho] at h
    simp only at h ⊢
    cases hm : mres P cx call σ0 ops pre chk i o s.1 s.2.1 s.2.2 with
    | none => rw [hm] at h; cases h
    | some r =>
      rw [hm] at h
      rw [mres_mono hs hm]
      exact h
theorem ms_cont {calls : Nat → Caller} {callW : Caller} (hw : ∀ f a σ ro r, callW f a σ ro = some r → ∃ n, calls n f a σ ro = some r) {σ0 : AS} {ops : List Oper} {pre : Bool} {chk : Option Env} {i : Nat} {s s' : Env × AS × Nat} (h : ms P cx callW σ0 ops pre chk i s = some s') : ∃ n, ms P cx (calls n) σ0 ops pre chk i s = some s' := by
  unfold ms at h
  cases ho : ops[i]? with
  | none => rw [ho] at h; cases h
  | some o =>
    rw [ho] at h
    simp only at h
    cases hm : mres P cx callW σ0 ops pre chk i o s.1 s.2.1 s.2.2 with
    | none => rw [hm] at h; cases h
    | some r =>
      rw [hm] at h
      obtain ⟨n, hn⟩ := mres_cont hw hm
      refine ⟨n, ?_⟩
      unfold ms
      rw [ho]
      simp only
      rw [hn]
      exact h
theorem runS_mono {S : Type} {f g : Nat → S → Option S} (h : ∀ i s s', f i s = some s' → g i s = some s') : ∀ (m i : Nat) (s s' : S), runS f m i s = some s' → runS g m i s = some s'
  | 0, _, _, _, hr => hr
  | m + 1, i, s, s', hr => by
    simp only [runS] at hr ⊢
    split at hr
    · rename_i s1 h1
      rw [h _ _ _ h1]
      exact runS_mono h m _ _ _ hr
    · cases hr
theorem runS_cont {S : Type} {f : Nat → S → Option S} {g : Nat → Nat → S → Option S} (hmono : ∀ n m, n ≤ m → ∀ i s s', g n i s = some s' → g m i s = some s') (h : ∀ i s s', f i s = some s' → ∃ n, g n i s = some s') : ∀ (m i : Nat) (s s' : S), runS f m i s = some s' → ∃ n, runS (g n) m i s = some s'
  | 0, _, _, _, hr => ⟨0, hr⟩
  | m + 1, i, s, s', hr => by
    simp only [runS] at hr
    split at hr
    · rename_i s1 h1
      obtain ⟨n1, e1⟩ := h _ _ _ h1
      obtain ⟨n2, e2⟩ := runS_cont hmono h m _ _ _ hr
      refine ⟨max n1 n2, ?_⟩
      simp only [runS]
      rw [hmono _ _ (Nat.le_max_left n1 n2) _ _ _ e1]
      exact runS_mono (fun i s s' => hmono _ _ (Nat.le_max_right n1 n2) i s s') m _ _ _ e2
    · cases hr
theorem mixA_mono {call call' : Caller} (hs : Sub call call') {σ : AS} {ops : List Oper} {env : Env} {r : Env × AS} (h : mixA P cx call σ ops env = some r) : mixA P cx call' σ ops env = some r := by
  unfold mixA at h ⊢
  split at h
  · rename_i hro
    rw [if_pos hro]
    split at h
    · rename_i hlt
      rw [if_pos hlt]
      split at h
      · rename_i e s1 k1 hr
        rw [runS_mono (fun i s s' => ms_mono hs) _ _ _ _ hr]
        simp only
        split at h
        · rename_i e2 s2 k2 hr2
          rw [runS_mono (fun i s s' => ms_mono hs) _ _ _ _ hr2]
          exact h
        · cases h
      · cases h
    · rename_i hlt
      rw [if_neg hlt]
      split at h
      · rename_i e2 s2 k2 hr2
        rw [runS_mono (fun i s s' => ms_mono hs) _ _ _ _ hr2]
        exact h
      · cases h
  · cases h
theorem mixA_cont {calls : Nat → Caller} {callW : Caller} (hch : ∀ n m, n ≤ m → Sub (calls n) (calls m)) (hw : ∀ f a σ ro r, callW f a σ ro = some r → ∃ n, calls n f a σ ro = some r) {σ : AS} {ops : List Oper} {env : Env} {r : Env × AS} (h : mixA P cx callW σ ops env = some r) : ∃ n, mixA P cx (calls n) σ ops env = some r := by
  unfold mixA at h
  split at h
  · rename_i hro
    split at h
    · rename_i hlt
      split at h
      · rename_i e s1 k1 hr
        obtain ⟨n1, e1⟩ := runS_cont (g := fun n => ms P cx (calls n) σ ops true none) (fun n m hnm i s s' => ms_mono (hch n m hnm)) (fun i s s' => ms_cont hw) _ _ _ _ hr
        split at h
        · rename_i e2 s2 k2 hr2
          obtain ⟨n2, e3⟩ := runS_cont (g := fun n => ms P cx (calls n) σ ops false (some e)) (fun n m hnm i s s' => ms_mono (hch n m hnm)) (fun i s s' => ms_cont hw) _ _ _ _ hr2
          refine ⟨max n1 n2, ?_⟩
          unfold mixA
          rw [if_pos hro, if_pos hlt, runS_mono (fun i s s' => ms_mono (hch _ _ (Nat.le_max_left n1 n2))) _ _ _ _ e1]
          simp only
          rw [runS_mono (fun i s s' => ms_mono (hch _ _ (Nat.le_max_right n1 n2))) _ _ _ _ e3]
          exact h
        · cases h
      · cases h
    · rename_i hlt
      split at h
      · rename_i e2 s2 k2 hr2
        obtain ⟨n2, e3⟩ := runS_cont (g := fun n => ms P cx (calls n) σ ops false none) (fun n m hnm i s s' => ms_mono (hch n m hnm)) (fun i s s' => ms_cont hw) _ _ _ _ hr2
        refine ⟨n2, ?_⟩
        unfold mixA
        rw [if_pos hro, if_neg hlt, e3]
        exact h
      · cases h
  · cases h
theorem regionA_mono {call call' : Caller} (hs : Sub call call') {id : Nat} {ops : List Oper} {draw : Bool} {env : Env} {σ : AS} {r : Env × AS} (h : regionA P cx tails call id ops draw env σ = some r) : regionA P cx tails call' id ops draw env σ = some r := by
  unfold regionA at h ⊢
  split at h
  · rename_i hd
    rw [if_pos hd]
    by_cases hbad : tails.contains (id + 1000000) = true
    · rw [if_pos hbad] at h; cases h
    rw [if_neg hbad] at h ⊢
    by_cases hmix : tails.contains (id + 2000000) = true
    · rw [if_pos hmix] at h ⊢
      exact mixA_mono hs h
    rw [if_neg hmix] at h ⊢
    split at h
    · rename_i env' ns nh hq
      rw [quietA_mono hs _ _ _ _ _ hq]
      simp only
      split at h
      · rename_i hc
        rw [if_pos hc]
        exact seqA_mono hs _ _ _ _ h
      · cases h
    · cases h
  · rename_i hd
    rw [if_neg hd]
    exact seqA_mono hs _ _ _ _ h
theorem regionA_cont (hch : ∀ n m, n ≤ m → Sub (calls n) (calls m)) (hw : ∀ f a σ ro r, callW f a σ ro = some r → ∃ n, calls n f a σ ro = some r) {id : Nat} {ops : List Oper} {draw : Bool} {env : Env} {σ : AS} {r : Env × AS}
    (h : regionA P cx tails callW id ops draw env σ = some r) : ∃ n, regionA P cx tails (calls n) id ops draw env σ = some r := by
  unfold regionA at h ⊢
  split at h
  · rename_i hd
    simp only [if_pos hd]
    by_cases hbad : tails.contains (id + 1000000) = true
    · rw [if_pos hbad] at h; cases h
    rw [if_neg hbad] at h
    simp only [if_neg hbad]
    by_cases hmix : tails.contains (id + 2000000) = true
    · rw [if_pos hmix] at h
      simp only [if_pos hmix]
      exact mixA_cont hch hw h
    rw [if_neg hmix] at h
    simp only [if_neg hmix]
    split at h
    · rename_i env' ns nh hq
      obtain ⟨n1, h1⟩ := quietA_cont hch hw _ _ _ _ _ hq
      split at h
      · rename_i hc
        obtain ⟨n2, h2⟩ := seqA_cont hch hw _ _ _ _ h
        refine ⟨max n1 n2, ?_⟩
        rw [quietA_mono (hch _ _ (Nat.le_max_left _ _)) _ _ _ _ _ h1]
        simp only [if_pos hc]
        exact seqA_mono (hch _ _ (Nat.le_max_right _ _)) _ _ _ _ h2
      · cases h
    · cases h
  · rename_i hd
    simp only [if_neg hd]
    exact seqA_cont hch hw _ _ _ _ h
theorem iterA_mono {f f' : St → Option (AExit × St)} (hf : ∀ st r, f st = some r → f' st = some r) : ∀ (m m' : Nat) (st : St) (r : AExit × St), m ≤ m' → iterA f m st = some r → iterA f' m' st = some r
  | 0, _, _, _, _, h => by cases h
  | m + 1, 0, _, _, hm, _ => by omega
  | m + 1, m' + 1, st, r, hm, h => by
    simp only [iterA] at h ⊢
    split at h
    · rename_i st1 h1
      rw [hf _ _ h1]
      exact iterA_mono hf m m' st1 r (by omega) h
    · rename_i hne
      rw [hf _ _ h]
      split
      · rename_i st1 h2
        exact absurd (h.trans h2) (fun he => hne st1 (by rw [← h2]; exact h))
      · rfl
theorem execA_mono {call call' : Caller} (hs : Sub call call') {n n' : Nat} (hn : n ≤ n') : ∀ (c : Code) (st : St) (r : AExit × St), execA P cx tails call n c st = some r → execA P cx tails call' n' c st = some r
  | .skip, st, r, h => by simpa [execA] using h
  | .label l, st, r, h => by simpa [execA] using h
  | .region id ops draw, st, r, h => by
    simp only [execA] at h ⊢
    split at h
    · rename_i st1 h1
      rw [regionA_mono hs h1]; exact h
    · cases h
  | .seq x y, st, r, h => by
    simp only [execA] at h ⊢
    split at h
    · rename_i st1 h1
      rw [execA_mono hs hn x _ _ h1]
      exact execA_mono hs hn y _ _ h
    · rename_i hne
      rw [execA_mono hs hn x _ _ h]
      split
      · rename_i st1 h2
        cases h2
        exact absurd h (hne st1)
      · rfl
  | .cond c x y, st, r, h => by
    simp only [execA] at h ⊢
    split at h
    · exact execA_mono hs hn x _ _ h
    · exact execA_mono hs hn y _ _ h
    · cases h
  | .block id c, st, r, h => by
    simp only [execA] at h ⊢
    split at h
    · rename_i i st1 h1
      rw [execA_mono hs hn c _ _ h1]
      exact h
    · rename_i hne
      rw [execA_mono hs hn c _ _ h]
      split
      · rename_i i st1 h2
        cases h2
        exact absurd h (hne i st1)
      · rfl
  | .loop c, st, r, h => by
    simp only [execA] at h ⊢
    exact iterA_mono (fun st r h => execA_mono hs hn c st r h) n n' st r hn h
  | .exit id, st, r, h => by simpa [execA] using h
  | .ret, st, r, h => by simpa [execA] using h
  | .goto _, st, r, h => by simp [execA] at h
open Classical in
noncomputable def iterW (f : St → Option (AExit × St)) (st : St) : Option (AExit × St) :=
  if h : ∃ m r, iterA f m st = some r then some h.choose_spec.choose else none
theorem iterA_det {f : St → Option (AExit × St)} {m m' : Nat} {st : St} {r r' : AExit × St} (h : iterA f m st = some r) (h' : iterA f m' st = some r') : r = r' := by
  have h1 := iterA_mono (fun _ _ h => h) m (max m m') st r (Nat.le_max_left _ _) h
  have h2 := iterA_mono (fun _ _ h => h) m' (max m m') st r' (Nat.le_max_right _ _) h'
  rw [h1] at h2
  exact Option.some.inj h2
theorem iterW_of {f : St → Option (AExit × St)} {m : Nat} {st : St} {r : AExit × St} (h : iterA f m st = some r) : iterW f st = some r := by
  unfold iterW
  have hex : ∃ m r, iterA f m st = some r := ⟨m, r, h⟩
  rw [dif_pos hex]
  exact congrArg some (iterA_det hex.choose_spec.choose_spec h)
theorem iterW_inv {f : St → Option (AExit × St)} {st : St} {r : AExit × St} (h : iterW f st = some r) : ∃ m, iterA f m st = some r := by
  unfold iterW at h
  split at h
  · rename_i hex
    cases h
    exact ⟨_, hex.choose_spec.choose_spec⟩
  · cases h
theorem iterW_next {f : St → Option (AExit × St)} {st st' : St} {r : AExit × St} (h : f st = some (.normal, st')) (h' : iterW f st' = some r) : iterW f st = some r := by
  obtain ⟨m, hm⟩ := iterW_inv h'
  exact iterW_of (m := m + 1) (by simp only [iterA, h]; exact hm)
theorem iterW_out {f : St → Option (AExit × St)} {st st' : St} {e : AExit} (h : f st = some (e, st')) (he : e ≠ .normal) : iterW f st = some (e, st') := by
  refine iterW_of (m := 1) ?_
  simp only [iterA, h]
  cases e with
  | normal => exact absurd rfl he
  | exit i => rfl
  | ret => rfl
noncomputable def execW (P : Program) (cx : Cx) (tails : List Nat) (call : Caller) : Code → St → Option (AExit × St)
  | .skip, st => some (.normal, st)
  | .label _, st => some (.normal, st)
  | .region id ops draw, st => match regionA P cx tails call id ops.toList draw st.1 st.2 with
    | some st' => some (.normal, st')
    | none => none
  | .seq a b, st => match execW P cx tails call a st with
    | some (.normal, st') => execW P cx tails call b st'
    | r => r
  | .cond c x y, st => match ev st.1 c with
    | some (.bool true) => execW P cx tails call x st
    | some (.bool false) => execW P cx tails call y st
    | _ => none
  | .block id c, st => match execW P cx tails call c st with
    | some (.exit i, st') => if i = id then some (.normal, st') else some (.exit i, st')
    | r => r
  | .loop c, st => iterW (execW P cx tails call c) st
  | .exit id, st => some (.exit id, st)
  | .ret, st => some (.ret, st)
  | _, _ => none
theorem iter_cont {f : St → Option (AExit × St)} {g : Nat → St → Option (AExit × St)} (hg : ∀ n n', n ≤ n' → ∀ st r, g n st = some r → g n' st = some r) (hf : ∀ st r, f st = some r → ∃ n, g n st = some r) :
    ∀ (m : Nat) (st : St) (r : AExit × St), iterA f m st = some r → ∃ n, iterA (g n) n st = some r
  | 0, _, _, h => by cases h
  | m + 1, st, r, h => by
    simp only [iterA] at h
    split at h
    · rename_i st1 h1
      obtain ⟨n1, e1⟩ := hf _ _ h1
      obtain ⟨n2, e2⟩ := iter_cont hg hf m st1 r h
      refine ⟨max n1 n2 + 1, ?_⟩
      simp only [iterA]
      rw [hg n1 _ (by omega) _ _ e1]
      exact iterA_mono (hg n2 (max n1 n2 + 1) (by omega)) n2 _ _ _ (by omega) e2
    · rename_i hne
      obtain ⟨n1, e1⟩ := hf _ _ h
      refine ⟨n1 + 1, ?_⟩
      simp only [iterA]
      rw [hg n1 (n1 + 1) (by omega) _ _ e1]
      split
      · rename_i st1 h2
        cases h2
        exact absurd h (hne st1)
      · rfl
theorem execW_cont (hch : ∀ n m, n ≤ m → Sub (calls n) (calls m)) (hw : ∀ f a σ ro r, callW f a σ ro = some r → ∃ n, calls n f a σ ro = some r) : ∀ (c : Code) (st : St) (r : AExit × St), execW P cx tails callW c st = some r → ∃ n, execA P cx tails (calls n) n c st = some r
  | .skip, st, r, h => ⟨0, by simpa [execA, execW] using h⟩
  | .label l, st, r, h => ⟨0, by simpa [execA, execW] using h⟩
  | .region id ops draw, st, r, h => by
    simp only [execW] at h
    split at h
    · rename_i st1 h1
      obtain ⟨n, hn⟩ := regionA_cont hch hw h1
      exact ⟨n, by simp only [execA, hn]; exact h⟩
    · cases h
  | .seq x y, st, r, h => by
    simp only [execW] at h
    split at h
    · rename_i st1 h1
      obtain ⟨n1, e1⟩ := execW_cont hch hw x _ _ h1
      obtain ⟨n2, e2⟩ := execW_cont hch hw y _ _ h
      refine ⟨max n1 n2, ?_⟩
      simp only [execA]
      rw [execA_mono (hch _ _ (Nat.le_max_left _ _)) (Nat.le_max_left _ _) x _ _ e1]
      exact execA_mono (hch _ _ (Nat.le_max_right _ _)) (Nat.le_max_right _ _) y _ _ e2
    · rename_i hne
      obtain ⟨n1, e1⟩ := execW_cont hch hw x _ _ h
      refine ⟨n1, ?_⟩
      simp only [execA]
      rw [e1]
      split
      · rename_i st1 h2
        cases h2
        exact absurd h (hne st1)
      · rfl
  | .cond c x y, st, r, h => by
    simp only [execW] at h
    split at h
    · rename_i hc
      obtain ⟨n, hn⟩ := execW_cont hch hw x _ _ h
      exact ⟨n, by simp only [execA, hc]; exact hn⟩
    · rename_i hc
      obtain ⟨n, hn⟩ := execW_cont hch hw y _ _ h
      exact ⟨n, by simp only [execA, hc]; exact hn⟩
    · cases h
  | .block id c, st, r, h => by
    simp only [execW] at h
    split at h
    · rename_i i st1 h1
      obtain ⟨n, hn⟩ := execW_cont hch hw c _ _ h1
      exact ⟨n, by simp only [execA, hn]; exact h⟩
    · rename_i hne
      obtain ⟨n, hn⟩ := execW_cont hch hw c _ _ h
      refine ⟨n, ?_⟩
      simp only [execA]
      rw [hn]
      split
      · rename_i i st1 h2
        cases h2
        exact absurd h (hne i st1)
      · rfl
  | .loop c, st, r, h => by
    simp only [execW] at h
    obtain ⟨m, hm⟩ := iterW_inv h
    obtain ⟨n, hn⟩ := iter_cont (g := fun n => execA P cx tails (calls n) n c) (fun n n' hnn st r h => execA_mono (hch _ _ hnn) hnn c st r h) (fun st r h => execW_cont hch hw c st r h) m st r hm
    exact ⟨n, by simp only [execA]; exact hn⟩
  | .exit id, st, r, h => ⟨0, by simpa [execA, execW] using h⟩
  | .ret, st, r, h => ⟨0, by simpa [execA, execW] using h⟩
  | .goto _, st, r, h => by simp [execW] at h
  | .scope _, st, r, h => by simp [execW] at h
  | .rangeFunc .., st, r, h => by simp [execW] at h
  | .refuse _, st, r, h => by simp [execW] at h
end
section
variable {P : Program} {how : FuncId → Option How}
theorem callN_mono1 : ∀ n, Sub (callN P how n) (callN P how (n + 1))
  | 0 => fun f a σ ro r h => by simp [callN] at h
  | n + 1 => fun f a σ ro r h => by
    have ih := callN_mono1 n
    rcases callN_inv h with ⟨p, hp, hr⟩ | ⟨fl, fn, c, hfl, hfn, hc, hr⟩
    · simp only [callN, hp]; exact hr
    · simp only [callN, hfl, hfn, hc]
      cases hx : execA P (cxOf fl σ ro) fl.tails (callN P how n) n c (frameA fn a, σ) with
      | none => rw [hx] at hr; simp [finishA] at hr
      | some x =>
        have := execA_mono ih (Nat.le_succ n) c _ _ hx
        simp only [callN] at this
        rw [this]
        rw [hx] at hr
        exact hr
theorem callN_mono {n m : Nat} (h : n ≤ m) : Sub (callN P how n) (callN P how m) := by
  induction h with
  | refl => exact fun _ _ _ _ _ h => h
  | step _ ih => exact fun f a σ ro r h => callN_mono1 _ _ _ _ _ _ (ih _ _ _ _ _ h)
open Classical in
noncomputable def callW (P : Program) (how : FuncId → Option How) : Caller := fun f a σ ro =>
  if h : ∃ n r, callN P how n f a σ ro = some r then some h.choose_spec.choose else none
theorem callW_of {n : Nat} {f : FuncId} {a : List AV} {σ : AS} {ro : Option Nat} {r : AV × AS} (h : callN P how n f a σ ro = some r) : callW P how f a σ ro = some r := by
  unfold callW
  have hex : ∃ n r, callN P how n f a σ ro = some r := ⟨n, r, h⟩
  rw [dif_pos hex]
  have h1 := callN_mono (P := P) (how := how) (Nat.le_max_left hex.choose n) _ _ _ _ _ hex.choose_spec.choose_spec
  have h2 := callN_mono (P := P) (how := how) (Nat.le_max_right hex.choose n) _ _ _ _ _ h
  rw [h1] at h2
  exact h2
theorem callW_inv {f : FuncId} {a : List AV} {σ : AS} {ro : Option Nat} {r : AV × AS} (h : callW P how f a σ ro = some r) : ∃ n, callN P how n f a σ ro = some r := by
  unfold callW at h
  split at h
  · rename_i hex
    cases h
    exact ⟨_, hex.choose_spec.choose_spec⟩
  · cases h
theorem callW_body {f : FuncId} {a : List AV} {σ : AS} {ro : Option Nat} {fl : Flags} {fn : Func} {c : Code} {r : AV × AS} (hfl : how f = some (.body fl)) (hfn : P.funcs[f]? = some fn) (hc : fn.body = some c)
    (h : finishA P fl fn σ.st.length (execW P (cxOf fl σ ro) fl.tails (callW P how) c (frameA fn a, σ)) = some r) : callW P how f a σ ro = some r := by
  cases hx : execW P (cxOf fl σ ro) fl.tails (callW P how) c (frameA fn a, σ) with
  | none => rw [hx] at h; simp [finishA] at h
  | some x =>
    obtain ⟨n, hn⟩ := execW_cont (calls := callN P how) (fun n m hnm => callN_mono hnm) (fun f a σ ro r h => callW_inv h) c _ _ hx
    refine callW_of (n := n + 1) ?_
    simp only [callN, hfl, hfn, hc, hn]
    rw [hx] at h
    exact h
theorem callW_prim {f : FuncId} {a : List AV} {σ : AS} {ro : Option Nat} {p : List AV → AS → Option Nat → Option (AV × AS)} {r : AV × AS} (hp : how f = some (.prim p)) (h : p a σ ro = some r) : callW P how f a σ ro = some r :=
  callW_of (n := 1) (by simp only [callN, hp]; exact h)
end
end Go.Abs
end
