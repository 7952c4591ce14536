/- The law, run. -/

import Derived.Test.YtcafckfmhoklkaaDc
open Go Go.Abs Go.Proofs
set_option maxRecDepth 100000
set_option maxHeartbeats 4000000
set_option linter.unusedSimpArgs false
set_option linter.unusedVariables false

/-- The heap with a new map behind the first k rows. -/
def hpAt (hp : List AObj) (H : List RowD) (k : Nat) : List AObj := (hp ++ [AObj.map [], AObj.cells [.map (.hp hp.length)]]).set hp.length (.map (((H.take k).foldl doP []).map entK))
theorem hpAt_pm (hp : List AObj) (H : List RowD) (k : Nat) : PM (hpAt hp H k) (hp.length + 1) hp.length ((H.take k).foldl doP []) := (newPM hp).put _
theorem hpAt_zero (hp : List AObj) (H : List RowD) : hpAt hp H 0 = hp ++ [.map [], .cells [.map (.hp hp.length)]] := (newPM hp).self.symm
theorem hpAt_succ (hp : List AObj) (H : List RowD) (k : Nat) (hk : k < H.length) : (hpAt hp H k).set hp.length (.map ((doP ((H.take k).foldl doP []) H[k]).map entK)) = hpAt hp H (k + 1) := by
  unfold hpAt
  rw [List.set_set, List.take_succ_eq_append_getElem hk, List.foldl_append]
  rfl
theorem hpAt_get (hp : List AObj) (H : List RowD) (k i : Nat) (hi : i < hp.length) : (hpAt hp H k)[i]? = hp[i]? := by
  unfold hpAt
  rw [List.getElem?_set_ne (by omega), List.getElem?_append_left hi]
theorem HRow.mono {hp hp' : List AObj} {X : AV} {l : List AV} (h : HRow hp X l) (hk : ∀ i, i < hp.length → hp'[i]? = hp[i]?) : HRow hp' X l := by
  rcases h with h | ⟨j, w, f, h1, h2⟩
  · exact .inl h
  · exact .inr ⟨j, w, f, h1, by rw [hk j (List.getElem?_eq_some_iff.1 h2).1]; exact h2⟩
theorem built_rd {σ : AS} {R : AV} {l : List RowD} (hB : Built 0 σ 17 R (l.map encRow)) : ∀ σ' : AS, σ.st.length ≤ σ'.st.length → σ'.st.take σ.st.length = σ.st → Rd Try.prog σ' 28 59 R (l.map encRow) := by
  intro σ' h1 h2
  have he : ∀ c ∈ l.map encRow, partA Try.prog 59 c.cells 0 = some c := fun c hc => by obtain ⟨r, _, rfl⟩ := List.mem_map.1 hc; exact elRow r
  rcases hB with ⟨h3, h4⟩ | ⟨_, im, v, h3, hg, _⟩
  · subst h3
    rw [h4]
    exact rd_slV (sz := 17) (l := []) Try.underlying28 s59 (by decide) (fun c hc => by cases hc)
  · subst h3
    refine rd_row Try.underlying28 s59 (by decide) (v := v) (fr := false) ?_ he
    have hlt := lt_of_get hg
    have e := congrArg (fun l : List AObj => l[im]?) h2
    simp only [List.getElem?_take_of_lt hlt] at e
    simp only [AS.get] at hg ⊢
    rw [e]; exact hg
theorem h24_of {hp : List AObj} {k : Nat} {l H : List RowD} {S : List KeyD} (hL : HL k l H S) : ∀ (k : Nat) (hk : k < H.length) (s : List AObj), callW Try.prog how 24 [.ptr (.hp (hp.length + 1)) 0, encRow H[k]] ⟨hpAt hp H k, s⟩ none = some (.bool true, ⟨hpAt hp H (k + 1), s⟩) := by
  intro k hk s
  have h := f24_ok (hpAt hp H k) s (hp.length + 1) hp.length _ H[k] (hpAt_pm hp H k) (hL.ok k hk) (hL.el _ (List.getElem_mem hk)).2.2.2.2.2.1 (hL.el _ (List.getElem_mem hk)).2.2.2.2.2.2
  rw [hpAt_succ hp H k hk] at h
  exact h
def isOpsM (x : AV) : Prop := x = .nils ∨ ∃ es, x = .sl false 5 es ∧ es.length ≤ 9223372036854775807 ∧ ∀ e ∈ es, isOpM e
namespace F3
noncomputable def bodyC : Code := (.seq (cr [.l]) (.seq (cr [.r, .l]) (.seq (cr [.r, .r, .l]) (.seq (.seq (cr [.r, .r, .r, .l, .l]) (cr [.r, .r, .r, .l, .r])) (.seq (cr [.r, .r, .r, .r, .l]) (.seq (cr [.r, .r, .r, .r, .r, .l]) .ret))))))
theorem body : Try.f3.body = some bodyC := by kernel_rfl
theorem loop_nil (cx : Cx) (hcx : cx.esc = [22]) (σ : AS) (env : Env) (hl : env.length = 156) (h1 : Env.get env 25 = .int .i64 0) (h2 : Env.get env 24 = .int .i64 ((([] : List AV).length : Nat) : Int)) :
    ∃ en σ', execW Try.prog cx [] (callW Try.prog how) (cr [.r, .r, .r, .l, .r]) (env, σ) = some (.normal, (en, σ')) ∧ en.length = 156 ∧ σ' = σ ∧ ∀ i, i ∉ [26, 139, 25] → Env.get en i = Env.get env i := by
  rw [loop_eq]
  obtain ⟨e, en, τ, r, hh⟩ := range_std (P := Try.prog) (cx := cx) (tails := []) (call := callW Try.prog how) (B := 0) (idT := 4) (idI := 33) (oT := oT) (o1 := oI.headD default) (o2 := (oI.drop 1).headD default) (body := (.block 1 (.seq (cr [.r, .r, .r, .l, .r, .i, .i, .r, .r, .l, .i, .l]) (.seq (cr [.r, .r, .r, .l, .r, .i, .i, .r, .r, .l, .i, .r, .l]) (.seq (cr [.r, .r, .r, .l, .r, .i, .i, .r, .r, .l, .i, .r, .r, .l]) (.seq (cr [.r, .r, .r, .l, .r, .i, .i, .r, .r, .l, .i, .r, .r, .r, .l]) (.seq (cr [.r, .r, .r, .l, .r, .i, .i, .r, .r, .l, .i, .r, .r, .r, .r, .l]) (.seq (cr [.r, .r, .r, .l, .r, .i, .i, .r, .r, .l, .i, .r, .r, .r, .r, .r, .l]) (.seq (cr [.r, .r, .r, .l, .r, .i, .i, .r, .r, .l, .i, .r, .r, .r, .r, .r, .r, .l]) (.seq (cr [.r, .r, .r, .l, .r, .i, .i, .r, .r, .l, .i, .r, .r, .r, .r, .r, .r, .r, .l]) (.seq (cr [.r, .r, .r, .l, .r, .i, .i, .r, .r, .l, .i, .r, .r, .r, .r, .r, .r, .r, .r, .l]) (.seq (.seq (cr [.r, .r, .r, .l, .r, .i, .i, .r, .r, .l, .i, .r, .r, .r, .r, .r, .r, .r, .r, .r, .l, .l]) (cr [.r, .r, .r, .l, .r, .i, .i, .r, .r, .l, .i, .r, .r, .r, .r, .r, .r, .r, .r, .r, .l, .r])) (.seq (.seq (cr [.r, .r, .r, .l, .r, .i, .i, .r, .r, .l, .i, .r, .r, .r, .r, .r, .r, .r, .r, .r, .r, .l, .l]) (.cond (.tmp 85) (.seq (cr [.r, .r, .r, .l, .r, .i, .i, .r, .r, .l, .i, .r, .r, .r, .r, .r, .r, .r, .r, .r, .r, .l, .r, .l, .l]) (.seq (cr [.r, .r, .r, .l, .r, .i, .i, .r, .r, .l, .i, .r, .r, .r, .r, .r, .r, .r, .r, .r, .r, .l, .r, .l, .r, .l]) (.seq (cr [.r, .r, .r, .l, .r, .i, .i, .r, .r, .l, .i, .r, .r, .r, .r, .r, .r, .r, .r, .r, .r, .l, .r, .l, .r, .r, .l]) (.cond (.tmp 96) (cr [.r, .r, .r, .l, .r, .i, .i, .r, .r, .l, .i, .r, .r, .r, .r, .r, .r, .r, .r, .r, .r, .l, .r, .l, .r, .r, .r, .l]) .skip)))) .skip)) (.seq (.seq (cr [.r, .r, .r, .l, .r, .i, .i, .r, .r, .l, .i, .r, .r, .r, .r, .r, .r, .r, .r, .r, .r, .r, .l, .l]) (.cond (.tmp 105) (cr [.r, .r, .r, .l, .r, .i, .i, .r, .r, .l, .i, .r, .r, .r, .r, .r, .r, .r, .r, .r, .r, .r, .l, .r, .l]) .skip)) (.seq (cr [.r, .r, .r, .l, .r, .i, .i, .r, .r, .l, .i, .r, .r, .r, .r, .r, .r, .r, .r, .r, .r, .r, .r, .l]) (.seq (cr [.r, .r, .r, .l, .r, .i, .i, .r, .r, .l, .i, .r, .r, .r, .r, .r, .r, .r, .r, .r, .r, .r, .r, .r, .l]) (.seq (cr [.r, .r, .r, .l, .r, .i, .i, .r, .r, .l, .i, .r, .r, .r, .r, .r, .r, .r, .r, .r, .r, .r, .r, .r, .r, .l]) (.seq (cr [.r, .r, .r, .l, .r, .i, .i, .r, .r, .l, .i, .r, .r, .r, .r, .r, .r, .r, .r, .r, .r, .r, .r, .r, .r, .r, .l]) (.seq (cr [.r, .r, .r, .l, .r, .i, .i, .r, .r, .l, .i, .r, .r, .r, .r, .r, .r, .r, .r, .r, .r, .r, .r, .r, .r, .r, .r, .l]) (cr [.r, .r, .r, .l, .r, .i, .i, .r, .r, .l, .i, .r, .r, .r, .r, .r, .r, .r, .r, .r, .r, .r, .r, .r, .r, .r, .r, .r])))))))))))))))))))) (J := fun _ e s => s = σ ∧ ∀ i, i ∉ [26, 139, 25] → Env.get e i = Env.get env i) (Ex := fun _ _ _ => False) (n := 0) (N := 156) (tc := 26) (ti := 25) (tl := 24) (tx := 139) (ty1 := 3) (ty2 := 3) (ty3 := 3) (ty4 := 3) ⟨by kernel_rfl, by kernel_rfl, by kernel_rfl⟩ ⟨by kernel_rfl, by kernel_rfl, by kernel_rfl⟩ ⟨by kernel_rfl, by kernel_rfl, by kernel_rfl⟩ (by decide) (by omega) (fun _ _ _ _ _ _ hf h => ⟨h.1, fun i hi => (hf i (fun e => hi (by simp [e])) (fun e => hi (by simp [e])) (fun e => hi (by simp [e]))).trans (h.2 i hi)⟩) (fun k _ _ hk => by cases hk) (σ := σ) hl h1 h2 ⟨rfl, fun _ _ => rfl⟩
  rcases hh with ⟨rfl, ⟨h, h2, h3⟩ | h⟩ | ⟨_, _, h⟩
  · exact ⟨en, τ, r, h, h2, h3⟩
  · exact h.elim
  · exact h.elim
theorem fin_code (st' : AS) (e : Env) (h4 : Env.get e 4 = .bool true) : ∃ σ', finishA Try.prog { esc := [22] } Try.f3 0 (some (.ret, (e, st'))) = some (.bool true, σ') :=
  ⟨_, fin_tmp (k := 4) (.inl rfl) rfl rfl h4 (by simp [AV.back]) rfl⟩
theorem ok (x : AV) (at_ : Int) (hx : isOpsM x) (hat : 0 ≤ at_ ∧ at_ ≤ 65535) : ∃ σ', callW Try.prog how 3 [x, .int .u16 at_] ⟨[], []⟩ none = some (.bool true, σ') := by
  let cx : Cx := { h := 0, ro := none, esc := [22] }
  have hcx : cx.esc = [22] := rfl
  have hro : ∀ k, cx.ro = some k → k ≤ cx.h := fun k hk => by cases hk
  obtain ⟨env, henv⟩ : ∃ e, e = frameA Try.f3 [x, .int .u16 at_] := ⟨_, rfl⟩
  have hlen : env.length = 156 := by rw [henv]; rfl
  have f0 : Env.get env 0 = x := by rw [henv]; rfl
  have f1 : Env.get env 1 = .int .u16 at_ := by rw [henv]; rfl
  obtain ⟨env1, x1a, x1b, x1c, x1d⟩ := rA cx env (AS.mk [] [])  hlen hcx   
  have f0 := (x1d 0 (by decide)).trans f0
  have f1 := (x1d 1 (by decide)).trans f1
  have f4 := x1c
  obtain ⟨env2, x2a, x2b, x2c, x2d⟩ := rR cx env1 (AS.mk [] []) ([]) ([]) x1b hcx  rfl rfl 
  have f0 := (x2d 0 (by decide)).trans f0
  have f1 := (x2d 1 (by decide)).trans f1
  have f4 := (x2d 4 (by decide)).trans f4
  have f5 := x2c
  obtain ⟨env3, x3a, x3b, x3c, x3d⟩ := rS cx env2 (AS.mk [AObj.cells [.nils]] [])  x2b hcx   
  have f0 := (x3d 0 (by decide)).trans f0
  have f1 := (x3d 1 (by decide)).trans f1
  have f4 := (x3d 4 (by decide)).trans f4
  have f5 := (x3d 5 (by decide)).trans f5
  have f6 := x3c
  have hI0 : InvM 0 0 .nils (AS.mk [AObj.cells [.nils]] []) := ⟨[], [], [], .nils, ⟨fun e he => by rw [List.mem_singleton] at he; subst he; exact .inl ⟨rfl, rfl⟩, List.pairwise_singleton _ _⟩, HL.nil, rfl, .inl ⟨rfl, rfl⟩⟩
  have hloop : ∃ en σ, execW Try.prog cx [] (callW Try.prog how) (cr [.r, .r, .r, .l]) (env3, AS.mk [AObj.cells [.nils]] []) = some (.normal, (en, σ)) ∧ en.length = 156 ∧ Env.get en 5 = .ptr (.hp 0) 0 ∧ ∃ k, k ≤ 15 ∧ InvM 0 k (Env.get en 6) σ := by
    rcases hx with rfl | ⟨es, rfl, hle, hes⟩
    · obtain ⟨e1, r1, r2, ⟨r3, r4, r5⟩, r6⟩ := rLn cx env3 (AS.mk [AObj.cells [.nils]] []) x3b hcx f0
      obtain ⟨en, σ', w1, w2, rfl, w4⟩ := loop_nil cx hcx (AS.mk [AObj.cells [.nils]] []) e1 r2 r5 r4
      refine ⟨en, _, execW_seq_of r1 w1, w2, ?_, 0, by omega, ?_⟩
      · rw [w4 5 (by decide), r6 5 (by decide)]; exact f5
      · rw [w4 6 (by decide), r6 6 (by decide), f6]; exact hI0
    · obtain ⟨e1, r1, r2, ⟨r3, r4, r5⟩, r6⟩ := rLs cx env3 (AS.mk [AObj.cells [.nils]] []) es x3b hcx f0
      have f1 := (r6 1 (by decide)).trans f1
      have f5 := (r6 5 (by decide)).trans f5
      have f6 := (r6 6 (by decide)).trans f6
      obtain ⟨e, en, σ, w1, w2⟩ := loop cx hcx hro ⟨[], []⟩ 0 at_ es rfl rfl hat hes hle (σ := AS.mk [AObj.cells [.nils]] []) r2 r5 r4 ⟨f1, f5, r3, by omega, by rw [f6]; exact hI0, trivial⟩
      rcases w2 with ⟨rfl, ⟨h1, _, h5, _, hk, hI, _⟩ | ⟨_, h1, h5, k, hk, hI⟩⟩ | ⟨_, h2, h3, _⟩
      · exact ⟨en, σ, execW_seq_of r1 w1, h1, h5, _, hk, hI⟩
      · exact ⟨en, σ, execW_seq_of r1 w1, h1, h5, k, hk, hI⟩
      · exact absurd h3 h2
  obtain ⟨en, σ, rl, hlen, f5, k, hk, l, H, S, X, hR, hL, hA, hX⟩ := hloop
  obtain ⟨R, f6⟩ : ∃ R, Env.get en 6 = R := ⟨_, rfl⟩
  rw [f6] at hR
  have hB : Built 0 σ 17 R (l.map encRow) := hR.1 _ (List.mem_singleton_self _)
  have hll : l.length ≤ 15 := by rw [hL.perm.length_eq]; have := hL.len; omega
  have hor : ∀ x ∈ l, x.ca < x.st ∧ x.st < x.an ∧ x.st ≠ 0 ∧ x.an ≠ 0 := fun x hx => by have := hL.el x (hL.perm.mem_iff.1 hx); exact ⟨this.2.1, this.2.2.1, this.2.2.2.1, this.2.2.2.2.1⟩
  have h11 : callW Try.prog how 11 [R] σ none = some (.tup [.agg [.int .i64 0, .int .u64 0], .int .i64 0], ⟨hpAt σ.hp H H.length, σ.st⟩) := by
    rcases F11.ok σ.hp σ.st R l H (hpAt σ.hp H) (fun _ => true) (Built.one hB) (built_rd hB) hll hor hL.perm hL.ris (hpAt_zero σ.hp H) (h24_of hL) with ⟨_, h⟩ | ⟨_, _, h, _⟩
    · exact h
    · cases h
  obtain ⟨env5, x5a, x5b, x5c, x5d⟩ := r34 cx en σ R _ hlen hcx f6 (Built.one hB) h11 rfl (Nat.zero_le _) 
  have f5 := (x5d 5 (by decide)).trans f5
  have f6 := (x5d 6 (by decide)).trans f6
  have f20 := x5c
  have hB2 := built_push (ob := .cells [.int .i64 0, .int .u64 0]) (built_hp hB (hpAt σ.hp H H.length))
  have hh : ((AS.mk (hpAt σ.hp H H.length) σ.st).push false (.cells [.int .i64 0, .int .u64 0])).hp = hpAt σ.hp H H.length := rfl
  generalize ((AS.mk (hpAt σ.hp H H.length) σ.st).push false (.cells [.int .i64 0, .int .u64 0])) = σa at x5a hB2 hh
  have h13 := F13.ok σa.hp σa.st R l H (hpAt σa.hp H) (fun _ => true) (Built.one hB2) (built_rd hB2) hll (fun x hx => (hor x hx).2.2.1) hL.perm hL.ris (hpAt_zero σa.hp H) (h24_of hL)
  have hlt0 : 0 < σ.hp.length := (List.getElem?_eq_some_iff.1 hA).1
  have hlA : σ.hp.length ≤ σa.hp.length := by rw [hh]; simp [hpAt]
  have hkeep : ∀ i, i < σ.hp.length → (hpAt σa.hp H H.length)[i]? = σ.hp[i]? := fun i hi => by rw [hpAt_get _ _ _ _ (by omega), hh, hpAt_get _ _ _ _ hi]
  have hA2 : (hpAt σa.hp H H.length)[0]? = some (.cells [X]) := by rw [hkeep 0 hlt0]; exact hA
  have hX2 := hX.mono hkeep
  have hsl := hL.slen
  have hPM := hpAt_pm σa.hp H H.length
  rw [List.take_length] at hPM
  have h12 := F12.ok (hpAt σa.hp H H.length) σa.st none (σa.hp.length + 1) 0 σa.hp.length _ S X (fun k hk => by cases hk) hPM hA2 hX2 (by omega) (fun key => by rw [hL.same])
  obtain ⟨hp2, h14⟩ := f14_ok (hpAt σa.hp H H.length) σa.st
  obtain ⟨env6, x6a, x6b, x6c, x6d⟩ := r35 cx env5 σa R _ 0 _ _ x5b hcx f5 f6 f20 (Built.one hB2) h13 h12 h14 
  have f5 := (x6d 5 (by decide)).trans f5
  have f6 := (x6d 6 (by decide)).trans f6
  have f20 := (x6d 20 (by decide)).trans f20
  have f4 := x6c
  obtain ⟨σ2, hfin⟩ := fin_code (AS.mk hp2 σa.st) env6 f4
  exact ⟨σ2, call_of (fl := { esc := [22] }) (fn := Try.f3) (c := bodyC) (env := env) (e := (.ret, (env6, AS.mk hp2 σa.st))) rfl Try.func3 body henv (by unfold bodyC; exact (execW_seq_of x1a (execW_seq_of x2a (execW_seq_of x3a (execW_seq_of rl (execW_seq_of x5a (execW_seq_of x6a (by rfl)))))))) hfin⟩
end F3
