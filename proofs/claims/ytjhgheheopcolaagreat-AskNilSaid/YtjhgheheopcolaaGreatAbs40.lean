/- The keys of a map, sorted: a contract of the library's as an operation of the interpreter. -/
import Derived.Test.YtjhgheheopcolaaGreatAbs39
set_option linter.unusedVariables false
set_option linter.unusedSimpArgs false
namespace Go.Abs
open Go.RowKit Go.MapKept Go.Maps Go.ChangeMaps

/-- Keys of one kind. -/
structure KeyKind (α : Type) where
  at? : AV → Option α
  av : α → AV
  val : α → Value
  lit : α → Lit
  of : DataW Unit → List α
  le : α → α → Bool
  most : Nat

def keyListA {α : Type} (K : KeyKind α) : List (AV × AV) → Option (List α)
  | [] => some []
  | e :: es => match K.at? e.1, keyListA K es with
    | some k, some ks => some (k :: ks)
    | _, _ => none

def slK : List AV → AV
  | [] => .nils
  | l => .sl false 1 l

def sortedA {α : Type} (K : KeyKind α) (g : FuncId) (args : List AV) (σ : AS) (_ : Option Nat) : Option (AV × AS) :=
  match args with
  | [.fn (.func g') [] [.ptr L 0]] => if g' = g then
      match σ.get L with
      | some (.cells [.nilm]) => some (.nils, σ)
      | some (.cells [.map M]) => match σ.get M with
        | some (.map es) => match keyListA K es with
          | some ks => if ks.length ≤ K.most then some (slK ((isortB K.le ks).map K.av), σ) else none
          | none => none
        | _ => none
      | _ => none
    else none
  | _ => none

structure KeyKindOk {α : Type} (P : Program) (kt : TypeId) (K : KeyKind α) : Prop where
  key : ∀ a k, K.at? a = some k → a = K.av k ∧ keyOf P kt (K.val k) = some (K.lit k)
  vr : ∀ ρ w k u, VR ρ w (K.av k) u → u = K.val k
  rv : ∀ ρ w k, VR ρ w (K.av k) (K.val k)
  one : ∀ k, okE 1 (K.av k) = true ∧ (K.av k).cells = [K.av k]
  of : ∀ es : List (Lit × DataW Unit), ∀ ks : List α, es.map (·.1) = ks.map K.lit → K.of (.map es) = ks
  perm : ∀ (es es' : List (Lit × DataW Unit)), es.Perm es' → (K.of (.map es)).Perm (K.of (.map es'))
  sort : ∀ l l', l.Perm l' → l'.mergeSort K.le = isortB K.le l
  most : K.most ≤ maxLen

structure SortedCon {α : Type} (P : Program) (f g : FuncId) (kt : TypeId) (K : KeyKind α) : Prop where
  ent : ∃ fn, P.funcs[f]? = some fn ∧ fn.body.isSome = true ∧ (fn.name == "runtime.NumGoroutine") = false
  run : ∀ (b nn Bm : Nat) (D0 : DataW Unit) (R : Value → Option (DataW Unit × List MemPlace)) (w : World), Bm < w.heap.size → w.cell? ⟨Bm, 0, none⟩ = some (.map (some b)) → w.ownsMap P kt R b nn D0 → Maps.size D0 ≤ K.most →
    Calls P f #[.func (.func g) #[] #[.pointer (some ⟨Bm, 0, none⟩)]] w fun e w' => ∃ (v : Value) (ss : List α), e = .returned v ∧ ss.Perm (K.of D0) ∧
      w'.ownsRow w.heap.size kt 1 v ss.length ((ss.mergeSort K.le).map K.val) ∧ (v = .slice none 0 0 ↔ ss = []) ∧ Below w.heap.size w w'
  nil : ∀ (Bm : Nat) (w : World), Bm < w.heap.size → w.cell? ⟨Bm, 0, none⟩ = some (.map none) →
    Calls P f #[.func (.func g) #[] #[.pointer (some ⟨Bm, 0, none⟩)]] w fun e w' => e = .returned (.slice none 0 0) ∧ Below w.heap.size w w'

/-- A value that reads as nothing in particular. -/
def anyRead : Value → Option (DataW Unit × List MemPlace) := fun _ => some (.nil, [])

section
variable {α : Type} {P : Program} {kt : TypeId} {K : KeyKind α} (hK : KeyKindOk P kt K)
include hK

theorem keyListA_of : ∀ {es : List (AV × AV)} {ks : List α}, keyListA K es = some ks → es.map (·.1) = ks.map K.av
  | [], ks, h => by simp only [keyListA, Option.some.injEq] at h; subst h; rfl
  | e :: es, ks, h => by
    unfold keyListA at h
    split at h
    · rename_i k ks' h1 h2
      cases h
      simp only [List.map_cons, (hK.key _ _ h1).1, keyListA_of h2]
    · cases h

theorem keyListA_keys : ∀ {es : List (AV × AV)} {ks : List α}, keyListA K es = some ks → ∀ k ∈ ks, keyOf P kt (K.val k) = some (K.lit k)
  | [], ks, h, k, hk => by simp only [keyListA, Option.some.injEq] at h; subst h; cases hk
  | e :: es, ks, h, k, hk => by
    unfold keyListA at h
    split at h
    · rename_i k' ks' h1 h2
      cases h
      rcases List.mem_cons.1 hk with rfl | hk
      · exact (hK.key _ _ h1).2
      · exact keyListA_keys h2 k hk
    · cases h

theorem owns_of {ρ : Rho} {w : World} {p : Place} {es : List (AV × AV)} {ks : List α} (h : keyListA K es = some ks) (hn : ks.length ≤ maxLen) (o : OR ρ w p (.map es)) :
    ∃ D0 : DataW Unit, w.ownsMap P kt anyRead p.b ks.length D0 ∧ (K.of D0).Perm ks ∧ Maps.size D0 = ks.length := by
  obtain ⟨_, _, arr, clock, hb, hl, hs, he⟩ := o
  have e1 := keyListA_of hK h
  have hlen : ks.length = arr.size := by rw [← hl]; simpa using (congrArg List.length e1).symm
  have hkey : ∀ (i : Nat) (m : MapEntry), arr[i]? = some m → ∃ k, ks[i]? = some k ∧ m.key = K.val k ∧ keyOf P kt m.key = some (K.lit k) := by
    intro i m hm
    have hi : i < arr.size := (Array.getElem?_eq_some_iff.1 hm).1
    have hi2 : i < es.length := by omega
    have hi3 : i < ks.length := by omega
    have a1 : es[i]? = some es[i] := List.getElem?_eq_getElem hi2
    have a2 : ks[i]? = some ks[i] := List.getElem?_eq_getElem hi3
    have a3 : (es.map (·.1))[i]? = (ks.map K.av)[i]? := by rw [e1]
    rw [List.getElem?_map, List.getElem?_map, a1, a2] at a3
    have a4 : es[i].1 = K.av ks[i] := by simpa using a3
    have a5 := (he i _ m a1 hm).2.2.1
    rw [a4] at a5
    have a6 := hK.vr _ _ _ _ a5
    exact ⟨_, a2, a6, by rw [a6]; exact keyListA_keys hK h _ (List.getElem_mem hi3)⟩
  have hrd : ∀ (i : Nat) (m : MapEntry), arr[i]? = some m → ∃ k, ks[i]? = some k ∧ Go.WideElems.rd P kt anyRead m = some (K.lit k, .nil) := by
    intro i m hm
    obtain ⟨k, h1, h2, h3⟩ := hkey i m hm
    exact ⟨k, h1, by simp [Go.WideElems.rd, h3, anyRead]⟩
  have hfit : Go.WideElems.Fit P kt anyRead arr clock := by
    refine ⟨by omega, hs, fun x hx => ?_⟩
    obtain ⟨i, hi⟩ := List.getElem?_of_mem hx
    obtain ⟨k, _, h2⟩ := hrd i x (by simpa using hi)
    exact ⟨_, h2⟩
  have hmap : (arr.toList.map (Go.WideElems.rg P kt anyRead)).map (·.1) = ks.map K.lit := by
    refine List.ext_getElem? fun i => ?_
    simp only [List.getElem?_map, Array.getElem?_toList]
    cases hm : arr[i]? with
    | none =>
      have : ks[i]? = none := by
        rw [List.getElem?_eq_none_iff]
        rw [Array.getElem?_eq_none_iff] at hm
        omega
      rw [this]; rfl
    | some m =>
      obtain ⟨k, h1, h2⟩ := hrd i m hm
      rw [h1]
      simp [Go.WideElems.rg_of h2]
  have hperm := Go.WideShapes.sorted_perm (arr.toList.map (Go.WideElems.rg P kt anyRead))
  refine ⟨.map ((arr.toList.map (Go.WideElems.rg P kt anyRead)).foldr DataW.insert []), ⟨arr, clock, hb, hfit, by omega, rfl⟩, ?_, ?_⟩
  · exact (hK.perm _ _ hperm).trans (by rw [hK.of _ _ hmap])
  · rw [Maps.size_eq, hperm.length_eq]
    simpa using hlen.symm

theorem slK_vr {ρ : Rho} {σ : AS} {w w' : World} (s : SR ρ σ w) (hb : Below w.heap.size w w') {ks : List α} {v : Value} {n : Nat} (hn : ks.length = n) (ho : w'.ownsRow w.heap.size kt 1 v n (ks.map K.val)) (hnil : v = .slice none 0 0 ↔ n = 0) : VR ρ w' (slK (ks.map K.av)) v := by
  obtain ⟨_, h⟩ := ho
  cases ks with
  | nil =>
    have : v = .slice none 0 0 := hnil.2 (by simpa using hn.symm)
    subst this
    exact .nils
  | cons k ks =>
    rcases h with ⟨_, h0⟩ | ⟨b, cap, cur, rfl, h1, h2, h3, h4, h5, h6⟩
    · simp at hn; omega
    · have hlen : ((k :: ks).map K.av).length = n := by simpa using hn
      rw [← hlen]
      have hsz : n * 1 = n := by omega
      rw [hsz] at h6
      have hcell : ∀ (i : Nat) (x : α), (k :: ks)[i]? = some x → w'.cell? ⟨b, i, none⟩ = some (K.val x) := by
        intro i x hx
        have hi : i < n := by rw [← hn]; exact (List.getElem?_eq_some_iff.1 hx).1
        have e1 : (cur.toList.take n)[i]? = some (K.val x) := by rw [h6, List.getElem?_map, hx]; rfl
        rw [List.getElem?_take, if_pos hi] at e1
        simp only [World.cell?, h2]
        simpa using e1
      have h6' := h6
      refine .sl false 1 _ ⟨b, 0, none⟩ cap (fun i _ => ((k :: ks)[i]?.map K.val).getD .nilFunc) (by omega) (fun h => by cases h) (fun _ => ⟨rfl, ?_, s.free_new h1⟩) ?_ ?_ ?_
      · have := (Array.getElem?_eq_some_iff.1 h2).1
        exact this
      · intro e he
        obtain ⟨x, _, rfl⟩ := List.mem_map.1 he
        exact (hK.one x).1
      · intro i e j c hi hj
        rw [List.getElem?_map] at hi
        obtain ⟨x, hx, rfl⟩ := Option.map_eq_some_iff.1 hi
        rw [(hK.one x).2] at hj
        have hj0 : j = 0 := by
          rcases j with _ | j
          · rfl
          · simp at hj
        subst hj0
        simp only [hx, Option.map_some, Option.getD_some]
        have := hcell i x hx
        simpa using this
      · intro i e j c hi hj
        rw [List.getElem?_map] at hi
        obtain ⟨x, hx, rfl⟩ := Option.map_eq_some_iff.1 hi
        rw [(hK.one x).2] at hj
        have hc : c = K.av x := by
          rcases j with _ | j
          · simpa using hj.symm
          · simp at hj
        subst hc
        simp only [hx, Option.map_some, Option.getD_some]
        exact hK.rv _ _ _

theorem sorted_prim {f g : FuncId} (hC : SortedCon P f g kt K) : PrimOk P f (sortedA K g) := {
  ent := hC.ent
  snd := by
    intro args σ ro v σ' h ρ w us s hv
    unfold sortedA at h
    split at h
    · rename_i g' L
      split at h
      · rename_i hg
        subst hg
        obtain ⟨hl, hvs⟩ := hv
        match us, hl with
        | [u], _ =>
          have hu := hvs 0 _ u rfl rfl
          cases hu with
          | fn _ _ _ vs us' l1 l2 h1 h2 =>
            obtain rfl : vs = #[] := Array.eq_empty_of_size_eq_zero (by simpa using l1.symm)
            have hsz : us'.size = 1 := by simpa using l2.symm
            obtain ⟨u', rfl⟩ : ∃ u', us' = #[u'] := by
              refine ⟨us'[0], ?_⟩
              apply Array.ext
              · simp [hsz]
              · intro i hi1 hi2
                have : i = 0 := by omega
                subst this
                rfl
            have hu' := h2 0 _ u' rfl rfl
            cases hu' with
            | ptr _ _ p hp hr =>
              split at h
              · rename_i hg
                cases h
                obtain ⟨p', hp', o⟩ := s.obj L _ hg
                rw [hp] at hp'
                cases hp'
                obtain ⟨hlive, _, xs, E, hb, hlen, hx⟩ := o
                have hx0 : xs[0]? = some xs[0]! := by
                  have : 0 < xs.size := by simp at hlen; omega
                  simp [this]
                have hm := hx 0 _ _ rfl hx0
                cases hvm : xs[0]! with
                | map mb =>
                  rw [hvm] at hm hx0
                  cases hm
                  have hcell : w.cell? ⟨p.b, 0, none⟩ = some (.map none) := by simp [World.cell?, hb, hx0]
                  refine (hC.nil p.b w (s.lt L p hp hlive) hcell).mono fun e w' ⟨he, hbl⟩ => ?_
                  exact ⟨ρ, _, he, Ext.below hbl s, SR.below hbl s, .nils⟩
                | _ => rw [hvm] at hm; cases hm
              · rename_i M hg
                split at h
                · rename_i es hM
                  split at h
                  · rename_i ks hks
                    split at h
                    · rename_i hn
                      cases h
                      obtain ⟨p', hp', o⟩ := s.obj L _ hg
                      rw [hp] at hp'
                      cases hp'
                      obtain ⟨hlive, _, xs, E, hb, hlen, hx⟩ := o
                      have hx0 : xs[0]? = some xs[0]! := by
                        have : 0 < xs.size := by simp at hlen; omega
                        simp [this]
                      have hm := hx 0 _ _ rfl hx0
                      cases hvm : xs[0]! with
                      | map mb =>
                        rw [hvm] at hm hx0
                        cases hm with
                        | map _ q hq hqr =>
                          have hcell : w.cell? ⟨p.b, 0, none⟩ = some (.map (some q.b)) := by simp [World.cell?, hb, hx0]
                          obtain ⟨q', hq', oq⟩ := s.obj M _ hM
                          rw [hq] at hq'
                          cases hq'
                          obtain ⟨D0, hown, hperm, hsize⟩ := owns_of hK hks (Nat.le_trans hn hK.most) oq
                          refine (hC.run q.b _ p.b D0 anyRead w (s.lt L p hp hlive) hcell hown (by omega)).mono ?_
                          rintro e w' ⟨v, ss, rfl, hss, hrow, hnil, hbl⟩
                          have hso : ss.mergeSort K.le = isortB K.le ks := hK.sort _ _ (hperm.symm.trans hss.symm)
                          rw [hso] at hrow
                          refine ⟨ρ, v, rfl, Ext.below hbl s, SR.below hbl s, slK_vr hK s hbl ?_ hrow ?_⟩
                          · rw [(isortB_perm ks).length_eq, ← hperm.length_eq, hss.length_eq]
                          · rw [hnil]; constructor
                            · rintro rfl; rfl
                            · exact List.eq_nil_of_length_eq_zero
                      | _ => rw [hvm] at hm; cases hm
                    · cases h
                  · cases h
                · cases h
              · cases h
      · cases h
    · cases h
  beh := by
    intro args σ ro v σ' h
    unfold sortedA at h
    repeat' split at h
    all_goals first | (cases h; exact Beh.refl _ _ _) | (cases h; done) }
end
end Go.Abs
