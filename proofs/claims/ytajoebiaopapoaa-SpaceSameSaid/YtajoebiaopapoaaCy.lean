/- What the program's Undo and Clean do; both spaces side by side. -/

import Derived.Test.YtajoebiaopapoaaCx
open Go Go.Abs Go.Proofs
set_option maxRecDepth 100000
set_option maxHeartbeats 4000000
set_option linter.unusedSimpArgs false
set_option linter.unusedVariables false

section
attribute [local simp] ofV ofCell ofCells seqA_nil seqA_cons seqVK_eq seqEK_eq wantedA yieldedA isVal effA ev evs evps putE optsA optsOk valA fieldAddrA fieldA loadA partA aggA isAggD buildA placesA fillA lay storeA AV.withCells buildSliceA elemsA rowParts fzL promL okE isSrc bytesOk pushA cxOf lenA binA intBinA strBinA unA indexAddrA eqA AVs.inb AV.inb Loc.inb calleeA opsOf sub bodyOf Env.get_set quietA_nil quietA_cons quietK_none quietK_some qstep newA isNew escNew boxOk newLoc flat rowPartsQ quietN quietOp isBS List.takeWhile finishA_eq finK_ret finK_normal retK backK resA oneA AV.back AVs.back execW_seq_eq seqK_normal seqK_ret seqK_exit execW_cond_eq condK_true condK_false execW_block_eq blockK_exit blockK_normal blockK_ret execW_region_eq regK_eq execW_skip execW_exit execW_ret regionA_plain regionA_quiet0 tailK_eq nilCheckA guardOk isConst lookupA keyFits mapUpdateA beqI bneI
theorem f26_raw (hp s : List AObj) (a : Nat) (m : Int) (hp2 : List AObj) (h52 : callW Try.prog how 52 [.ptr (.hp a) 0, .fn (.func 53) [] [.ptr (.st s.length) 0]] ⟨hp, s ++ [.cells [.int .i64 m]]⟩ none = some (.tup [], ⟨hp2, s ++ [.cells [.int .i64 m]]⟩)) :
    callW Try.prog how 26 [.ptr (.hp a) 0, .int .i64 m] ⟨hp, s⟩ none = some (.tup [], ⟨hp2, s⟩) := by
  refine callW_body (fl := {}) (fn := Try.f26) (c := bodyOf Try.f26) rfl Try.func26 rfl ?_
  have henv : ∃ e, e = frameA Try.f26 [.ptr (.hp a) 0, .int .i64 m] := ⟨_, rfl⟩
  obtain ⟨env, henv⟩ := henv
  have hl : env.length = 7 := by rw [henv]; rfl
  have h0 : Env.get env 0 = .ptr (.hp a) 0 := by rw [henv]; rfl
  have h1 : Env.get env 1 = .int .i64 m := by rw [henv]; rfl
  rw [← henv]
  clear henv
  simp -implicitDefEqProofs [Try.f26, hl, h0, h1, h52]

theorem f28_raw (hp s : List AObj) (a : Nat) (m : Int) (hp2 : List AObj) (h52 : callW Try.prog how 52 [.ptr (.hp a) 0, .fn (.func 55) [] [.ptr (.st s.length) 0]] ⟨hp, s ++ [.cells [.int .i64 m]]⟩ none = some (.tup [], ⟨hp2, s ++ [.cells [.int .i64 m]]⟩)) :
    callW Try.prog how 28 [.ptr (.hp a) 0, .int .i64 m] ⟨hp, s⟩ none = some (.tup [], ⟨hp2, s⟩) := by
  refine callW_body (fl := {}) (fn := Try.f28) (c := bodyOf Try.f28) rfl Try.func28 rfl ?_
  have henv : ∃ e, e = frameA Try.f28 [.ptr (.hp a) 0, .int .i64 m] := ⟨_, rfl⟩
  obtain ⟨env, henv⟩ := henv
  have hl : env.length = 7 := by rw [henv]; rfl
  have h0 : Env.get env 0 = .ptr (.hp a) 0 := by rw [henv]; rfl
  have h1 : Env.get env 1 = .int .i64 m := by rw [henv]; rfl
  rw [← henv]
  clear henv
  simp -implicitDefEqProofs [Try.f28, hl, h0, h1, h52]

end
theorem f26_ok (hp s : List AObj) (a mm : Nat) (m : Int) (M S : List Rw) (h : PS hp a mm M S) (hS : GoodS S) : ∃ hp' M', callW Try.prog how 26 [.ptr (.hp a) 0, .int .i64 m] ⟨hp, s⟩ none = some (.tup [], ⟨hp', s⟩) ∧ PS hp' a mm M' (turnS (fun L : List Vn => L.take (uptoN L m)) S) ∧ Keep1 hp hp' mm := by
  obtain ⟨hp', M', h1, h2, h3⟩ := F52.ok hp (s ++ [.cells [.int .i64 m]]) a mm s.length 53 (fun L : List Vn => L.take (uptoN L m)) m M S h hS (by simp) (fun hp s L hG hL hq => f53_ok hp s _ m L hG hL hq)
  exact ⟨hp', M', f26_raw hp s a m hp' h1, h2, h3⟩
theorem f28_ok (hp s : List AObj) (a mm : Nat) (m : Int) (M S : List Rw) (h : PS hp a mm M S) (hS : GoodS S) : ∃ hp' M', callW Try.prog how 28 [.ptr (.hp a) 0, .int .i64 m] ⟨hp, s⟩ none = some (.tup [], ⟨hp', s⟩) ∧ PS hp' a mm M' (turnS (fun L : List Vn => L.drop (uptoN L m - 1)) S) ∧ Keep1 hp hp' mm := by
  obtain ⟨hp', M', h1, h2, h3⟩ := F52.ok hp (s ++ [.cells [.int .i64 m]]) a mm s.length 55 (fun L : List Vn => L.drop (uptoN L m - 1)) m M S h hS (by simp) (fun hp s L hG hL hq => f55_ok hp s _ m L hG hL hq)
  exact ⟨hp', M', f28_raw hp s a m hp' h1, h2, h3⟩
theorem turnS_congr {g g' : List Vn → List Vn} : ∀ {S : List Rw}, (∀ r ∈ S, g r.2 = g' r.2) → turnS g S = turnS g' S
  | [], _ => rfl
  | r :: S, h => by
    have h1 : turnR g r = turnR g' r := by unfold turnR; rw [h r (by simp)]
    have ih := turnS_congr (S := S) fun x hx => h x (by simp [hx])
    unfold turnS at ih ⊢
    rw [List.filterMap_cons, List.filterMap_cons, h1, ih]
theorem good_take {L : List Vn} (h : GoodO L) (n : Nat) : GoodO (L.take n) := ⟨fun x hx => h.el x (List.mem_of_mem_take hx), fun i hi => by
  rw [List.length_take] at hi
  rw [List.getElem_take, List.getElem_take]
  exact h.up i (by omega), by rw [List.length_take]; have := h.len; omega⟩
theorem good_drop {L : List Vn} (h : GoodO L) (n : Nat) : GoodO (L.drop n) := ⟨fun x hx => h.el x (List.mem_of_mem_drop hx), fun i hi => by
  rw [List.length_drop] at hi
  rw [List.getElem_drop, List.getElem_drop]
  have := h.up (n + i) (by omega)
  exact this, by rw [List.length_drop]; have := h.len; omega⟩
theorem turn_good {g : List Vn → List Vn} {S : List Rw} (hS : GoodS S) {c : Nat} (hB : Bnd c S) (hg : ∀ L, GoodO L → GoodO (g L)) (hs : ∀ L x, x ∈ g L → x ∈ L) (hl : ∀ L, (g L).length ≤ L.length) : GoodS (turnS g S) ∧ Bnd c (turnS g S) := by
  have key : ∀ x ∈ turnS g S, ∃ r ∈ S, x = (r.1, g r.2) ∧ g r.2 ≠ [] := by
    intro x hx
    obtain ⟨r, hr, he⟩ := List.mem_filterMap.1 hx
    unfold turnR at he
    split at he
    · cases he
    · rename_i hn
      cases he
      exact ⟨r, hr, rfl, fun e => hn (by rw [e]; rfl)⟩
  have hlen := turnS_len (g := g) S
  refine ⟨⟨?_, fun x hx => ?_, fun x hx => ?_, fun x hx => ?_, Nat.le_trans hlen hS.len⟩, ⟨Nat.le_trans hlen hB.l, fun x hx => ?_⟩⟩
  · unfold turnS SortedS
    refine List.Pairwise.filterMap (R := fun a b : Rw => ltS a.1 b.1 = true) (turnR g) (fun a a' h b hb b' hb' => ?_) hS.so
    unfold turnR at hb hb'
    split at hb
    · cases hb
    · split at hb'
      · cases hb'
      · cases hb
        cases hb'
        exact h
  · obtain ⟨r, hr, rfl, _⟩ := key x hx
    exact hS.ok r hr
  · obtain ⟨r, hr, rfl, hn⟩ := key x hx
    exact hn
  · obtain ⟨r, hr, rfl, _⟩ := key x hx
    exact hg _ (hS.go r hr)
  · obtain ⟨r, hr, rfl, _⟩ := key x hx
    exact ⟨Nat.le_trans (hl _) (hB.r r hr).1, fun y hy => (hB.r r hr).2 y (hs _ _ hy)⟩
/-- Both spaces in the heap: the program's, the document's. -/
structure Two (hp : List AObj) (a mm b : Nat) (S : List Rw) : Prop where
  p : ∃ M, PS hp a mm M S
  r : ∃ X, hp[b]? = some (.cells [X]) ∧ HRow hp X (S.map encRow)
  ab : a ≠ b
/-- All stays but two places. -/
def Keep2 (hp hp' : List AObj) (m b : Nat) : Prop := hp.length ≤ hp'.length ∧ ∀ i, i ≠ m → i ≠ b → i < hp.length → hp'[i]? = hp[i]?
theorem Keep2.refl (hp : List AObj) (m b : Nat) : Keep2 hp hp m b := ⟨Nat.le_refl _, fun _ _ _ _ => rfl⟩
theorem Keep2.trans {x y z : List AObj} {m b : Nat} (h : Keep2 x y m b) (h' : Keep2 y z m b) : Keep2 x z m b := ⟨Nat.le_trans h.1 h'.1, fun i h1 h2 hl => (h'.2 i h1 h2 (Nat.lt_of_lt_of_le hl h.1)).trans (h.2 i h1 h2 hl)⟩
theorem Keep1.two {hp hp' : List AObj} {m : Nat} (h : Keep1 hp hp' m) (b : Nat) : Keep2 hp hp' m b := ⟨h.1, fun i h1 _ hl => h.2 i h1 hl⟩
theorem SetR.two {hp hp' : List AObj} {b : Nat} {T : List Rw} (h : SetR hp hp' b T) (m : Nat) : Keep2 hp hp' m b := ⟨h.1, fun i _ h2 hl => h.2.1 i h2 hl⟩
theorem HRow.keep {hp hp' : List AObj} {X : AV} {l : List AV} (h : HRow hp X l) (hk : ∀ (j w : Nat) (f : Bool), hp[j]? = some (AObj.row l 2 w f) → hp'[j]? = hp[j]?) : HRow hp' X l := by
  rcases h with h | ⟨j, w, f, rfl, hj⟩
  · exact .inl h
  · exact .inr ⟨j, w, f, rfl, (hk j w f hj).trans hj⟩
theorem PS.keep {hp hp' : List AObj} {a mm : Nat} {M S : List Rw} (h : PS hp a mm M S) (h1 : hp'[a]? = hp[a]?) (h2 : hp'[mm]? = hp[mm]?) : PS hp' a mm M S := ⟨h1.trans h.oA, h2.trans h.oM, h.p⟩
/-- What happens to other spaces is not seen. -/
theorem Two.frame {hp hp' : List AObj} {a mm b m2 b2 : Nat} {S : List Rw} (h : Two hp a mm b S) (hk : Keep2 hp hp' m2 b2) {N : List (AV × AV)} {c : List AV} (hm2 : hp[m2]? = some (.map N)) (hb2 : hp[b2]? = some (.cells c)) (h1 : a ≠ b2) (h2 : mm ≠ m2) (h3 : b ≠ b2) : Two hp' a mm b S := by
  obtain ⟨⟨M, hP⟩, ⟨X, hX, hR⟩, hab⟩ := h
  have e1 : a ≠ m2 := by rintro rfl; have := hP.oA; rw [hm2] at this; cases this
  have e2 : mm ≠ b2 := by rintro rfl; have := hP.oM; rw [hb2] at this; cases this
  have e3 : b ≠ m2 := by rintro rfl; rw [hm2] at hX; cases hX
  refine ⟨⟨M, hP.keep (hk.2 a e1 h1 (at_lt hP.oA)) (hk.2 mm h2 e2 (at_lt hP.oM))⟩, ⟨X, (hk.2 b e3 h3 (at_lt hX)).trans hX, hR.keep fun j w f hj => hk.2 j ?_ ?_ (at_lt hj)⟩, hab⟩
  · rintro rfl; rw [hm2] at hj; cases hj
  · rintro rfl; rw [hb2] at hj; cases hj
/-- The program's half was turned, then the document's. -/
theorem Two.both {hp hp1 hp2 : List AObj} {a mm b : Nat} {S T : List Rw} {M' : List Rw} (h : Two hp a mm b S) (h1 : PS hp1 a mm M' T) (hk : Keep1 hp hp1 mm) (h2 : ∀ X, hp1[b]? = some (.cells [X]) → HRow hp1 X (S.map encRow) → SetR hp1 hp2 b T) : Two hp2 a mm b T ∧ Keep2 hp hp2 mm b := by
  obtain ⟨⟨M, hP⟩, ⟨X, hX, hR⟩, hab⟩ := h
  have e3 : b ≠ mm := by rintro rfl; have := hP.oM; rw [hX] at this; cases this
  have hs := h2 X ((hk.2 b e3 (at_lt hX)).trans hX) (hR.keep fun j w f hj => hk.2 j (by rintro rfl; have := hP.oM; rw [hj] at this; cases this) (at_lt hj))
  refine ⟨⟨⟨M', h1.keep (hs.2.1 a hab (at_lt h1.oA)) (hs.2.1 mm (fun e => e3 e.symm) (at_lt h1.oM))⟩, hs.2.2, hab⟩, (hk.two b).trans (hs.two mm)⟩
theorem ref_row {hp hp1 : List AObj} {a mm b : Nat} {S : List Rw} (h : Two hp a mm b S) (hk : Keep1 hp hp1 mm) : ∃ X, hp1[b]? = some (.cells [X]) ∧ HRow hp1 X (S.map encRow) := by
  obtain ⟨⟨M, hP⟩, ⟨X, hX, hR⟩, hab⟩ := h
  have e3 : b ≠ mm := by rintro rfl; have := hP.oM; rw [hX] at this; cases this
  exact ⟨X, (hk.2 b e3 (at_lt hX)).trans hX, hR.keep fun j w f hj => hk.2 j (by rintro rfl; have := hP.oM; rw [hj] at this; cases this) (at_lt hj)⟩
section
attribute [local simp] ofV ofCell ofCells seqA_nil seqA_cons seqVK_eq seqEK_eq wantedA yieldedA isVal effA ev evs evps putE optsA optsOk valA fieldAddrA fieldA loadA partA aggA isAggD buildA placesA fillA lay storeA AV.withCells buildSliceA elemsA rowParts fzL promL okE isSrc bytesOk pushA cxOf lenA binA intBinA strBinA unA indexAddrA eqA AVs.inb AV.inb Loc.inb calleeA opsOf sub bodyOf Env.get_set quietA_nil quietA_cons quietK_none quietK_some qstep newA isNew escNew boxOk newLoc flat rowPartsQ quietN quietOp isBS List.takeWhile finishA_eq finK_ret finK_normal retK backK resA oneA AV.back AVs.back execW_seq_eq seqK_normal seqK_ret seqK_exit execW_cond_eq condK_true condK_false execW_block_eq blockK_exit blockK_normal blockK_ret execW_region_eq regK_eq execW_skip execW_exit execW_ret regionA_plain regionA_quiet0 tailK_eq nilCheckA guardOk isConst lookupA keyFits mapUpdateA beqI bneI
theorem f9_raw (hp s : List AObj) (ro : Option Nat) (a b : Nat) (key : ByteArray) (m : Int) (Y : AV) (v : Vn) (d : Bool) (hro : ∀ k, ro = some k → k ≤ s.length) (h16 : callW Try.prog how 16 [.ptr (.hp a) 0, .str key, .int .i64 m] ⟨hp, s⟩ ro = some (.tup [.agg [.int .i64 v.a, .int .u64 v.n, .str v.v, .bool v.g], .bool d], ⟨hp, s⟩)) (hY : Plain Y) (h31 : callW Try.prog how 31 [.ptr (.hp b) 0, .str key] ⟨hp, s ++ [.cells [.int .i64 v.a, .int .u64 v.n, .str v.v, .bool v.g]]⟩ ro = some (Y, ⟨hp, s ++ [.cells [.int .i64 v.a, .int .u64 v.n, .str v.v, .bool v.g]]⟩)) (h30 : callW Try.prog how 30 [Y, .int .i64 m] ⟨hp, s ++ [.cells [.int .i64 v.a, .int .u64 v.n, .str v.v, .bool v.g]]⟩ ro = some (.tup [.agg [.int .i64 v.a, .int .u64 v.n, .str v.v, .bool v.g], .bool d], ⟨hp, s ++ [.cells [.int .i64 v.a, .int .u64 v.n, .str v.v, .bool v.g]]⟩)) (heq : eqA Try.prog 40 46 (.agg [.int .i64 v.a, .int .u64 v.n, .str v.v, .bool v.g]) (.agg [.int .i64 v.a, .int .u64 v.n, .str v.v, .bool v.g]) = some true) (heb : eqA Try.prog 40 4 (.bool d) (.bool d) = some true) :
    callW Try.prog how 9 [.ptr (.hp a) 0, .ptr (.hp b) 0, .str key, .int .i64 m] ⟨hp, s⟩ ro = some (.bool true, ⟨hp, s⟩) := by
  refine callW_body (fl := {}) (fn := Try.f9) (c := bodyOf Try.f9) rfl Try.func9 rfl ?_
  have henv : ∃ e, e = frameA Try.f9 [.ptr (.hp a) 0, .ptr (.hp b) 0, .str key, .int .i64 m] := ⟨_, rfl⟩
  obtain ⟨env, henv⟩ := henv
  have hl : env.length = 44 := by rw [henv]; rfl
  have h0 : Env.get env 0 = .ptr (.hp a) 0 := by rw [henv]; rfl
  have h1 : Env.get env 1 = .ptr (.hp b) 0 := by rw [henv]; rfl
  have h2 : Env.get env 2 = .str key := by rw [henv]; rfl
  have h3 : Env.get env 3 = .int .i64 m := by rw [henv]; rfl
  rw [← henv]
  clear henv
  simp -implicitDefEqProofs [-eqA, Try.f9, hl, h0, h1, h2, h3, wok_le hro, wok_le' hro, heb, h16, hY.one, hY.inb, hY.row, h31, h30, heq, gd46]

end
theorem f9_ok (hp s : List AObj) (ro : Option Nat) (a mm b : Nat) (S : List Rw) (key : ByteArray) (m : Int) (hro : ∀ k, ro = some k → k ≤ s.length) (h : Two hp a mm b S) (hS : GoodS S) : callW Try.prog how 9 [.ptr (.hp a) 0, .ptr (.hp b) 0, .str key, .int .i64 m] ⟨hp, s⟩ ro = some (.bool true, ⟨hp, s⟩) := by
  obtain ⟨⟨M, hP⟩, ⟨X, hX, hR⟩, hab⟩ := h
  have he := eqVn 46 38 (readV (ofS S key) m).1 (readV (ofS S key) m).1 (by decide)
  rw [decide_eq_true rfl] at he
  exact f9_raw hp s ro a b key m _ (readV (ofS S key) m).1 _ hro (f16_ok hp s ro a mm M S key m hro hP hS) slV_plain (F31.ok hp _ ro b key X S (lt_app hro _) hX hR (Nat.le_trans hS.len (by decide))) (f30_ok hp _ ro (ofS S key) m (lt_app hro _) (hS.gof key)) he (by simp [eqA])