/- Operations that only make a value, held against the model's own: maps, the rest, and all of them. -/
import Derived.Test.YtjhgheheopcolaaGreatAbs11
set_option linter.unusedVariables false
set_option linter.unusedSimpArgs false
namespace Go.Abs
section
variable {P : Program} {ρ : Rho} {w : World} {σ : AS}

theorem beqB (a b : ByteArray) : (a == b) = beqS a b := by rw [beq_toListBytes, beqS_eq]

theorem keyEq_sameNow {kd : TypeDesc} {k a : AV} {u v : Value} (hf : keyFits kd k = true) (hu : VR ρ w k u) (hv : VR ρ w a v) {b : Bool} (h : keyEq k a = some b) : Instr.sameNow kd u v = some b := by
  unfold keyEq at h
  split at h
  · split at h
    · rename_i hk
      cases h; cases hu; cases hv
      subst hk
      cases kd <;> simp [keyFits] at hf
      simp [Instr.sameNow]
    · cases h
  · cases h; cases hu; cases hv
    cases kd <;> simp [keyFits] at hf
    simp [Instr.sameNow, beqB]
  · cases h; cases hu; cases hv
    cases kd <;> simp [keyFits] at hf
    simp [Instr.sameNow]
  · cases h

/-- Entries of a map. -/
def EntriesR (ρ : Rho) (w : World) (es : List (AV × AV)) (ms : List MapEntry) : Prop :=
  es.length = ms.length ∧ ∀ (i : Nat) (e : AV × AV) (m : MapEntry), es[i]? = some e → ms[i]? = some m → e.1.inb 0 = true ∧ e.2.inb 0 = true ∧ VR ρ w e.1 m.key ∧ VR ρ w e.2 m.val

theorem EntriesR.tail {e : AV × AV} {es : List (AV × AV)} {m : MapEntry} {ms : List MapEntry} (h : EntriesR ρ w (e :: es) (m :: ms)) : EntriesR ρ w es ms :=
  ⟨by simpa using h.1, fun i e' m' he hm => h.2 (i + 1) e' m' (by simpa using he) (by simpa using hm)⟩

theorem findA_sound {kd : TypeDesc} {k : AV} {u : Value} (hf : keyFits kd k = true) (hu : VR ρ w k u) : ∀ (es : List (AV × AV)) (ms : List MapEntry) (n : Nat) (r : Option AV), EntriesR ρ w es ms → findA k es = some r →
    (r = none ∧ Instr.findNow kd u ms n = some none) ∨ ∃ a i v, r = some a ∧ Instr.findNow kd u ms n = some (some (i, v)) ∧ VR ρ w a v ∧ a.inb 0 = true
  | [], ms, n, r, hE, h => by
    simp only [findA, Option.some.injEq] at h
    subst h
    have : ms = [] := by simpa using hE.1.symm
    subst this
    exact .inl ⟨rfl, rfl⟩
  | e :: es, [], n, r, hE, h => by have := hE.1; simp at this
  | e :: es, m :: ms, n, r, hE, h => by
    obtain ⟨i1, i2, v1, v2⟩ := hE.2 0 e m (by simp) (by simp)
    simp only [findA] at h
    split at h
    · rename_i hk
      cases h
      exact .inr ⟨e.2, n, m.val, rfl, by simp [Instr.findNow, keyEq_sameNow hf hu v1 hk], v2, i2⟩
    · rename_i hk
      have := findA_sound hf hu es ms (n + 1) r hE.tail h
      simp only [Instr.findNow, keyEq_sameNow hf hu v1 hk]
      exact this
    · cases h

theorem checkKey_plain {kd : TypeDesc} {kt : TypeId} {k : AV} {u : Value} (hk : P.underlying kt = some kd) (hf : keyFits kd k = true) (hu : VR ρ w k u) (e : Bool) (n : Nat) (w' : World) : (Instr.checkKey e (n + 1) kt u).run P w' = .ok () w' := by
  cases kd <;> cases k <;> simp [keyFits] at hf <;> cases hu <;> simp [Instr.checkKey, run_underlying hk]

/-- A map of the interpreter. -/
theorem map_obj (s : SRo ρ σ w) {L : Loc} {es : List (AV × AV)} (h : σ.get L = some (.map es)) : ∃ p arr clock, ρ L = some p ∧ p.row = false ∧ p.live = true ∧ w.heap[p.b]? = some (.map arr clock) ∧ MapKept.Stamped arr clock ∧ EntriesR ρ w es arr.toList := by
  obtain ⟨p, hp, hl, hr, arr, clock, hw, hlen, hst, hv⟩ := s.obj L _ h
  exact ⟨p, arr, clock, hp, hr, hl, hw, hst, by simpa using hlen, fun i e m he hm => hv i e m he (by simpa using hm)⟩

theorem VR.zero {t : TypeId} {z : AV} {w' : World} (h : zeroA P t = some z) : ∃ v, (zeroValue t).run P w' = .ok v w' ∧ VR ρ w z v := by
  obtain ⟨v, h1, h2⟩ := run_zeroA h w'
  exact ⟨v, h1, ofV_sound h2⟩

theorem VR.pair {a b : AV} {u v : Value} (h1 : VR ρ w a u) (h2 : VR ρ w b v) : VR ρ w (.tup [a, b]) (.tuple #[u, v]) :=
  .tup _ _ rfl fun i c x hc hx => by
    match i with
    | 0 => simp at hc hx; subst hc; subst hx; exact h1
    | 1 => simp at hc hx; subst hc; subst hx; exact h2
    | i + 2 => simp at hc

theorem lookupA_sound (s : SRo ρ σ w) {t : TypeId} {m k c : AV} {vm vk : Value} {ok : Bool} (hm : VR ρ w m vm) (hk : VR ρ w k vk) (h : lookupA P σ t m k ok = some c) :
    ∃ r, (Instr.lookup t vm vk ok).run P w = .ok r w ∧ VR ρ w c r := by
  unfold lookupA at h
  split at h
  · rename_i kt et ht
    split at h
    · rename_i kd z hkd hz
      obtain ⟨zv, z1, z2⟩ := VR.zero (ρ := ρ) (w := w) (w' := w) hz
      split at h
      · rename_i hf
        split at h
        · cases hm
          cases h
          have hfn : Instr.findNow kd vk [] 0 = some none := rfl
          refine ⟨if ok = true then .tuple #[zv, .bool false] else zv, by
            simp [Instr.lookup, run_underlying ht, checkKey_plain hkd hf hk, Instr.findKey, run_underlying hkd, hfn, z1], ?_⟩
          cases ok
          · simpa using z2
          · simpa using z2.pair (.bool false)
        · rename_i L
          split at h
          · rename_i es hg
            obtain ⟨p, arr, clock, hp, hr, hl, hw, _, hE⟩ := map_obj s hg
            cases hm with
            | map _ p' hp' hr' =>
              have : p' = p := Option.some.inj (hp'.symm.trans hp)
              subst this
              have hgo : (getObj p'.b).run P w = .ok (.map arr clock) w := by simp [getObj, Sem.run, hw]
              split at h
              · rename_i v hfind
                cases h
                rcases findA_sound hf hk es arr.toList 0 _ hE hfind with ⟨h0, _⟩ | ⟨a, i, v', e1, e2, e3, _⟩
                · cases h0
                · cases e1
                  refine ⟨if ok = true then .tuple #[v', .bool true] else v', by
                    simp [Instr.lookup, run_underlying ht, hgo, checkKey_plain hkd hf hk, Instr.findKey, run_underlying hkd, e2], ?_⟩
                  cases ok
                  · simpa using e3
                  · simpa using e3.pair (.bool true)
              · rename_i hfind
                cases h
                rcases findA_sound hf hk es arr.toList 0 _ hE hfind with ⟨_, e2⟩ | ⟨a, i, v', e1, _⟩
                · refine ⟨if ok = true then .tuple #[zv, .bool false] else zv, by
                    simp [Instr.lookup, run_underlying ht, hgo, checkKey_plain hkd hf hk, Instr.findKey, run_underlying hkd, e2, z1], ?_⟩
                  cases ok
                  · simpa using z2
                  · simpa using z2.pair (.bool false)
                · cases e1
              · cases h
          · cases h
        · cases h
      · cases h
    · cases h
  · cases h

theorem ckA_sound (e : Bool) : ∀ (n m : Nat) (t : TypeId) (v : AV) (u : Value) (w' : World), n ≤ m → ckA P n t v = true → VR ρ w v u → (Instr.checkKey e m t u).run P w' = .ok () w'
  | 0, _, _, _, _, _, _, h, _ => by cases h
  | n + 1, m, t, v, u, w', hm, h, hv => by
    obtain ⟨m, rfl⟩ : ∃ k, m = k + 1 := ⟨m - 1, by omega⟩
    unfold ckA at h
    split at h
    · rename_i fs ht
      split at h
      · rename_i cs
        cases hv with
        | agg _ vs hl hvs =>
          rw [List.all_eq_true] at h
          have hb : ∀ f ∈ fs.toList, ((if f.name ≠ "_" then do Instr.checkKey e m f.type (← part f.type vs f.offset) else pure ()) : Sem Unit).run P w' = .ok () w' := by
            intro f hf
            have := h f hf
            split at this
            · rename_i x hx
              obtain ⟨y, y1, y2⟩ := part_sound hl hvs hx w'
              have := ckA_sound e n m f.type x y w' (by omega) this y2
              split
              · simp [y1, this]
              · rfl
            · cases this
          have key : ∀ l : List Field, (∀ f ∈ l, ((if f.name ≠ "_" then do Instr.checkKey e m f.type (← part f.type vs f.offset) else pure ()) : Sem Unit).run P w' = .ok () w') →
              (forIn (m := Sem) l PUnit.unit (fun f _ =>
                if f.name = "_" then pure (ForInStep.yield PUnit.unit) else do
                  let x ← part f.type vs f.offset
                  Instr.checkKey e m f.type x
                  pure (ForInStep.yield PUnit.unit)) : Sem PUnit).run P w' = .ok PUnit.unit w' := by
            intro l
            induction l with
            | nil => intro _; simp
            | cons f l ih =>
              intro hl'
              have h0 := hl' f (by simp)
              rw [List.forIn_cons, Sem.run_bind]
              by_cases hf : f.name = "_"
              · rw [if_pos hf]
                simp only [Result.andThen_ok, Sem.run_pure]
                exact ih (fun g hg => hl' g (by simp [hg]))
              · rw [if_neg hf]
                rw [if_pos hf] at h0
                simp only [Sem.run_bind] at h0 ⊢
                cases hp : (part f.type vs f.offset).run P w' with
                | ok x w2 =>
                  rw [hp] at h0
                  simp only [Result.andThen_ok] at h0 ⊢
                  rw [h0]
                  simp only [Result.andThen_ok, Sem.run_pure]
                  exact ih (fun g hg => hl' g (by simp [hg]))
                | _ => rw [hp] at h0; simp [Result.andThen] at h0
          have := key fs.toList hb
          simp only [Instr.checkKey, Sem.run_bind, run_underlying ht, Result.andThen_ok, ← Array.forIn_toList]
          simp only [ne_eq, ite_not] at this ⊢
          rw [this]
          simp
      · cases h
    · cases h
    · cases h
    · cases h
    · rename_i d h1 h2 h3 ht
      cases d <;> first | (simp [Instr.checkKey, run_underlying ht]; done) | (cases u <;> simp [Instr.checkKey, run_underlying ht]; done) | skip
      all_goals (first | exact absurd rfl (h1 _) | exact absurd rfl (h2 _) | exact absurd rfl (h3 _ _))

theorem lookupEA_sound (s : SRo ρ σ w) {t : TypeId} {m k c : AV} {vm vk : Value} {ok : Bool} (hm : VR ρ w m vm) (hk : VR ρ w k vk) (h : lookupEA P σ t m k ok = some c) :
    ∃ r, (Instr.lookup t vm vk ok).run P w = .ok r w ∧ VR ρ w c r := by
  unfold lookupEA at h
  split at h
  · rename_i kt et ht
    split at h
    · rename_i z hz
      obtain ⟨zv, z1, z2⟩ := VR.zero (ρ := ρ) (w := w) (w' := w) hz
      split at h
      · rename_i hf
        have hck := ckA_sound (P := P) true 20 10000 kt k vk w (by decide) hf hk
        obtain ⟨kd, hkd⟩ : ∃ kd, P.underlying kt = some kd := by
          unfold ckA at hf
          split at hf
          · rename_i h1; exact ⟨_, h1⟩
          · cases hf
          · cases hf
          · cases hf
          · rename_i d _ _ _ h1; exact ⟨d, h1⟩
        have hfn : Instr.findNow kd vk [] 0 = some none := rfl
        split at h
        · cases hm
          cases h
          refine ⟨if ok = true then .tuple #[zv, .bool false] else zv, by
            simp [Instr.lookup, run_underlying ht, hck, Instr.findKey, run_underlying hkd, hfn, z1], ?_⟩
          cases ok
          · simpa using z2
          · simpa using z2.pair (.bool false)
        · rename_i L
          split at h
          · rename_i hg
            obtain ⟨p, arr, clock, hp, hr, hl, hw, _, hE⟩ := map_obj s hg
            cases hm with
            | map _ p' hp' hr' =>
              have : p' = p := Option.some.inj (hp'.symm.trans hp)
              subst this
              have hgo : (getObj p'.b).run P w = .ok (.map arr clock) w := by simp [getObj, Sem.run, hw]
              have harr : arr = #[] := by
                have := hE.1
                exact Array.eq_empty_of_size_eq_zero (by simpa using this.symm)
              subst harr
              cases h
              refine ⟨if ok = true then .tuple #[zv, .bool false] else zv, by
                simp [Instr.lookup, run_underlying ht, hgo, hck, Instr.findKey, run_underlying hkd, hfn, z1], ?_⟩
              cases ok
              · simpa using z2
              · simpa using z2.pair (.bool false)
          · cases h
        · cases h
      · cases h
    · cases h
  · cases h

theorem assertA_sound {x c : AV} {u : Value} {xt t : TypeId} {ok : Bool} (hx : VR ρ w x u) (h : assertA P x t ok = some c) : ∃ r, (Instr.typeAssert u xt t ok).run P w = .ok r w ∧ VR ρ w c r := by
  unfold assertA at h
  split at h
  · cases h
  · rename_i d hni ht
    split at h
    · rename_i t' v
      cases hx with
      | iface _ _ v' hv =>
        split at h
        · rename_i e
          subst e
          cases h
          refine ⟨if ok = true then .tuple #[v', .bool true] else v', ?_, ?_⟩
          · cases d <;> first | (exact absurd rfl (hni _)) | simp [Instr.typeAssert, run_underlying ht]
          · cases ok
            · simpa using hv
            · simpa using hv.pair (.bool true)
        · rename_i e
          split at h
          · rename_i hok
            subst hok
            split at h
            · rename_i z hz
              cases h
              obtain ⟨zv, z1, z2⟩ := VR.zero (ρ := ρ) (w := w) (w' := w) hz
              refine ⟨_, ?_, z2.pair (.bool false)⟩
              cases d <;> first | (exact absurd rfl (hni _)) | simp [Instr.typeAssert, run_underlying ht, e, z1]
            · cases h
          · cases h
    · cases hx
      split at h
      · rename_i hok
        subst hok
        split at h
        · rename_i z hz
          cases h
          obtain ⟨zv, z1, z2⟩ := VR.zero (ρ := ρ) (w := w) (w' := w) hz
          refine ⟨_, ?_, z2.pair (.bool false)⟩
          cases d <;> first | (exact absurd rfl (hni _)) | simp [Instr.typeAssert, run_underlying ht, z1]
        · cases h
      · cases h
    · cases h
  · cases h

theorem bytesOf_sound {es : List AV} {vs : Array Value} (hR : RowAt ρ w 1 es vs) {l : List UInt8} (h : bytesOf? es = some l) {g : Value → ByteArray → Sem (ForInStep ByteArray)}
    (hg : ∀ n r, (g (.int .u8 n) r).run P w = .ok (.yield (r.push (UInt8.ofNat n.toNat))) w) : ∀ s : ByteArray,
    (forIn (m := Sem) vs.toList s g : Sem ByteArray).run P w = .ok ⟨(s.data.toList ++ l).toArray⟩ w := by
  obtain ⟨hs, hv⟩ := hR
  have hs' : es.length = vs.toList.length := by simp [hs]
  have hv' : ∀ (i : Nat) (e : AV) (u : Value), es[i]? = some e → vs.toList[i]? = some u → e.cells = [e] → VR ρ w e u := fun i e u he hu hc => by
    refine hv i e 0 e u he (by rw [hc]; rfl) ?_
    rw [Nat.mul_one, Nat.add_zero]; simpa using hu
  generalize vs.toList = us at *
  clear hs hv
  induction es generalizing us l with
  | nil =>
    simp only [bytesOf?, Option.some.injEq] at h
    subst h
    have : us = [] := by simpa using hs'.symm
    subst this
    intro s
    simp
  | cons e es ih =>
    intro s
    cases us with
    | nil => simp at hs'
    | cons u us =>
      unfold bytesOf? at h
      split at h
      · cases ‹e :: es = []›
      · rename_i n xs heq
        cases heq
        cases hb : bytesOf? es with
        | none => simp [hb] at h
        | some l' =>
          simp only [hb, Option.map_some, Option.some.injEq] at h
          subst h
          have h0 := hv' 0 (.int .u8 n) u (by simp) (by simp) rfl
          have h0 := h0.int_inv
          subst h0
          simp only [List.forIn_cons, Sem.run_bind, hg, Result.andThen_ok]
          rw [ih hb us (by simpa using hs') (fun i e u he hu hc => hv' (i + 1) e u (by simpa using he) (by simpa using hu) hc)]
          congr 2
          simp [ByteArray.push]
      · cases h

theorem convA_sound (s : SRo ρ σ w) {src dst : TypeId} {x c : AV} {u : Value} (hx : VR ρ w x u) (h : convA P σ src dst x = some c) : ∃ r, (convert src dst u).run P w = .ok r w ∧ VR ρ w c r := by
  unfold convA at h
  split at h
  · rename_i d k kk n h1 h2
    cases h; cases hx
    refine ⟨.int k (k.wrap n), ?_, by rw [wr_eq]; exact .int _ _⟩
    cases d <;> simp [convert, run_underlying h1, run_underlying h2, Conv.intToInt]
  · rename_i d kk n h1 h2
    cases h; cases hx
    refine ⟨_, ?_, .str _⟩
    cases d <;> simp [convert, run_underlying h1, run_underlying h2, Conv.intToString]
  · rename_i d str h1 h2
    cases h; cases hx
    refine ⟨_, ?_, .str _⟩
    cases d <;> simp [convert, run_underlying h1, run_underlying h2]
  · rename_i e h1 h2 h3 h4
    split at h
    · rename_i he
      split at h
      · rename_i es hes
        cases hb : bytesOf? es with
        | none => simp [hb] at h
        | some l =>
          simp only [hb, Option.map_some, Option.some.injEq] at h
          subst h
          obtain ⟨g1, g2, g3⟩ := elemsA_sound (P := P) s hx hes (by omega)
          obtain ⟨vs, v1, v2⟩ := g3 es.length (Nat.le_refl _)
          rw [List.take_length] at v2
          have hu : u = .slice none 0 0 ∨ ∃ a cap, u = .slice (some a) es.length cap := by
            unfold elemsA at hes
            split at hes
            · cases hx; exact .inl rfl
            · split at hes
              · cases hes; cases hx; exact .inr ⟨_, _, rfl⟩
              · cases hes
            · rename_i L v off len
              split at hes
              · rename_i es' sz' v' fro hg
                split at hes
                · rename_i hc
                  cases hes
                  cases hx
                  have hl2 : ((es'.drop off).take len).length = len := by simp; omega
                  rw [hl2]
                  exact .inr ⟨_, _, rfl⟩
                · cases hes
              · cases hes
            · exact (h4 _ rfl).elim
            · cases hes
          refine ⟨.string ⟨l.toArray⟩, ?_, .str _⟩
          rcases hu with rfl | ⟨a, cap, rfl⟩
          · have hes0 : es = [] := by
              have := g1
              simp [Builtin.lenOf] at this
              exact List.length_eq_zero_iff.1 this.symm
            subst hes0
            simp only [bytesOf?, Option.some.injEq] at hb
            subst hb
            simp [convert, run_underlying h1, run_underlying h2, run_underlying he, Conv.bytesToString]
            rfl
          · simp only [Builtin.firstCells, Nat.mul_one] at v1
            simp only [convert, Sem.run_bind, run_underlying h1, run_underlying h2, Result.andThen_ok, run_underlying he, Conv.bytesToString, v1, ← Array.forIn_toList]
            rw [bytesOf_sound (P := P) v2 hb (fun n r => by simp)]
            simp
      · cases h
    · cases h
  · cases h
end
end Go.Abs
