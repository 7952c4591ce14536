/- An op, a row, as the program's, as the document's. -/

import Derived.Test.YtcafckfmhoklkaaCe
open Go Go.Abs Go.Proofs
set_option maxRecDepth 100000
set_option maxHeartbeats 4000000
set_option linter.unusedSimpArgs false
set_option linter.unusedVariables false

/-- A row of a history. -/
structure RowD where
  cl : Int
  sq : Int
  kind : Int
  key : ByteArray
  val : ByteArray
  rs : List RdI
  ws : List WrI
  ca : Int
  st : Int
  an : Int
  code : Int
  rcl : Int
  rsq : Int
  rn : Int
  rcode : Int
  rval : ByteArray
  rnum : Int
def opA (kind : Int) (key val : ByteArray) (rs : List RdI) (ws : List WrI) : List AV := [.int .i64 kind, .str key, .str val, slV 2 (rs.map encRd), slV 3 (ws.map encWr)]
def rowC (x : RowD) : List AV := [.int .i64 x.cl, .int .u64 x.sq, .int .i64 x.kind, .str x.key, .str x.val, slV 2 (x.rs.map encRd), slV 3 (x.ws.map encWr), .int .i64 x.ca, .int .i64 x.st, .int .i64 x.an, .int .i64 x.code, .int .i64 x.rcl, .int .u64 x.rsq, .int .i64 x.rn, .int .i64 x.rcode, .str x.rval, .int .u64 x.rnum]
def encRow (x : RowD) : AV := .agg (rowC x)
section
attribute [local simp] ofV ofCell ofCells seqA_nil seqA_cons seqVK_eq seqEK_eq wantedA yieldedA isVal effA ev evs evps putE optsA optsOk valA fieldAddrA fieldA loadA partA aggA isAggD buildA placesA fillA lay storeA AV.withCells buildSliceA elemsA rowParts fzL promL okE isSrc bytesOk pushA cxOf lenA binA intBinA strBinA unA indexAddrA eqA AVs.inb AV.inb Loc.inb calleeA opsOf sub bodyOf Env.get_set quietA_nil quietA_cons quietK_none quietK_some qstep newA isNew escNew boxOk newLoc flat rowPartsQ quietN quietOp isBS List.takeWhile finishA_eq finK_ret finK_normal retK backK resA oneA AV.back AVs.back execW_seq_eq seqK_normal seqK_ret seqK_exit execW_cond_eq condK_true condK_false execW_block_eq blockK_exit blockK_normal blockK_ret execW_region_eq regK_eq execW_skip execW_exit execW_ret regionA_plain regionA_quiet0 tailK_eq nilCheckA guardOk isConst lookupA keyFits mapUpdateA beqI bneI
theorem f4_c (hp s : List AObj) (ro : Option Nat) (kind : Int) (key val : ByteArray) (X Y A B : AV) (hro : ∀ k, ro = some k → k ≤ s.length) (hX : Plain X) (hY : Plain Y) (hA : Plain A) (hB : Plain B) (h15 : ∀ st, callW Try.prog how 15 [.agg [.int .i64 0, .int .u64 0, .bool false, X, Y]] ⟨hp, s ++ st⟩ ro = some (.agg [.int .i64 0, .int .u64 0, .bool false, A, B], ⟨hp, s ++ st⟩)) :
    callW Try.prog how 4 [.agg [.int .i64 kind, .str key, .str val, X, Y]] ⟨hp, s⟩ ro = some (.agg [.int .i64 kind, .str key, .str val, A, B], ⟨hp, s⟩) := by
  refine callW_body (fl := {}) (fn := Try.f4) (c := bodyOf Try.f4) rfl Try.func4 rfl ?_
  have henv : ∃ e, e = frameA Try.f4 [.agg [.int .i64 kind, .str key, .str val, X, Y]] := ⟨_, rfl⟩
  obtain ⟨env, henv⟩ := henv
  have hl : env.length = 21 := by rw [henv]; rfl
  have h0 : Env.get env 0 = .agg [.int .i64 kind, .str key, .str val, X, Y] := by rw [henv]; rfl
  rw [← henv]
  clear henv
  simp -implicitDefEqProofs [Try.f4, hl, h0, wok_le hro, wok_le' hro, hX.one, hX.inb, hX.row, hX.back, hX.cells, hY.one, hY.inb, hY.row, hY.back, hY.cells, hA.one, hA.inb, hA.row, hA.back, hA.cells, hB.one, hB.inb, hB.row, hB.back, hB.cells, h15]

theorem f5_c (hp s : List AObj) (ro : Option Nat) (kind : Int) (key val : ByteArray) (X Y A B : AV) (V : AV) (cl sq : Int) (pl : Bool) (hro : ∀ k, ro = some k → k ≤ s.length) (hX : Plain X) (hY : Plain Y) (hA : Plain A) (hB : Plain B) (h17 : ∀ st, callW Try.prog how 17 [.agg [.int .i64 4, .str ⟨#[]⟩, .str ⟨#[]⟩, X, Y], .agg [.int .i64 0, .int .u64 0]] ⟨hp, s ++ st⟩ ro = some (V, ⟨hp, s ++ st⟩)) (h16 : ∀ st, callW Try.prog how 16 [V] ⟨hp, s ++ st⟩ ro = some (.agg [.int .i64 cl, .int .u64 sq, .bool pl, A, B], ⟨hp, s ++ st⟩)) :
    callW Try.prog how 5 [.agg [.int .i64 kind, .str key, .str val, X, Y]] ⟨hp, s⟩ ro = some (.agg [.int .i64 kind, .str key, .str val, A, B], ⟨hp, s⟩) := by
  refine callW_body (fl := {}) (fn := Try.f5) (c := bodyOf Try.f5) rfl Try.func5 rfl ?_
  have henv : ∃ e, e = frameA Try.f5 [.agg [.int .i64 kind, .str key, .str val, X, Y]] := ⟨_, rfl⟩
  obtain ⟨env, henv⟩ := henv
  have hl : env.length = 23 := by rw [henv]; rfl
  have h0 : Env.get env 0 = .agg [.int .i64 kind, .str key, .str val, X, Y] := by rw [henv]; rfl
  rw [← henv]
  clear henv
  simp -implicitDefEqProofs [Try.f5, hl, h0, wok_le hro, wok_le' hro, hX.one, hX.inb, hX.row, hX.back, hX.cells, hY.one, hY.inb, hY.row, hY.back, hY.cells, hA.one, hA.inb, hA.row, hA.back, hA.cells, hB.one, hB.inb, hB.row, hB.back, hB.cells, h17, h16]

theorem f10_c (hp s : List AObj) (ro : Option Nat) (kind : Int) (key val : ByteArray) (X Y A B : AV) (a0 a1 a2 a3 a4 a5 a6 a7 a8 a9 b0 : Int) (v2 : ByteArray) (hro : ∀ k, ro = some k → k ≤ s.length) (hX : Plain X) (hY : Plain Y) (hA : Plain A) (hB : Plain B) (h4 : ∀ st r, r ≤ (s ++ st).length → callW Try.prog how 4 [.agg [.int .i64 kind, .str key, .str val, X, Y]] ⟨hp, s ++ st⟩ (some r) = some (.agg [.int .i64 kind, .str key, .str val, A, B], ⟨hp, s ++ st⟩)) :
    callW Try.prog how 10 [.agg [.int .i64 a0, .int .u64 a1, .int .i64 kind, .str key, .str val, X, Y, .int .i64 a2, .int .i64 a3, .int .i64 a4, .int .i64 a5, .int .i64 a6, .int .u64 a7, .int .i64 a8, .int .i64 a9, .str v2, .int .u64 b0]] ⟨hp, s⟩ ro = some (.agg [.int .i64 a0, .int .u64 a1, .int .i64 kind, .str key, .str val, A, B, .int .i64 a2, .int .i64 a3, .int .i64 a4, .int .i64 a5, .int .i64 a6, .int .u64 a7, .int .i64 a8, .int .i64 a9, .str v2, .int .u64 b0], ⟨hp, s⟩) := by
  refine callW_body (fl := {}) (fn := Try.f10) (c := bodyOf Try.f10) rfl Try.func10 rfl ?_
  have henv : ∃ e, e = frameA Try.f10 [.agg [.int .i64 a0, .int .u64 a1, .int .i64 kind, .str key, .str val, X, Y, .int .i64 a2, .int .i64 a3, .int .i64 a4, .int .i64 a5, .int .i64 a6, .int .u64 a7, .int .i64 a8, .int .i64 a9, .str v2, .int .u64 b0]] := ⟨_, rfl⟩
  obtain ⟨env, henv⟩ := henv
  have hl : env.length = 31 := by rw [henv]; rfl
  have h0 : Env.get env 0 = .agg [.int .i64 a0, .int .u64 a1, .int .i64 kind, .str key, .str val, X, Y, .int .i64 a2, .int .i64 a3, .int .i64 a4, .int .i64 a5, .int .i64 a6, .int .u64 a7, .int .i64 a8, .int .i64 a9, .str v2, .int .u64 b0] := by rw [henv]; rfl
  rw [← henv]
  clear henv
  simp -implicitDefEqProofs [Try.f10, hl, h0, wok_le hro, wok_le' hro, hX.one, hX.inb, hX.row, hX.back, hX.cells, hY.one, hY.inb, hY.row, hY.back, hY.cells, hA.one, hA.inb, hA.row, hA.back, hA.cells, hB.one, hB.inb, hB.row, hB.back, hB.cells, h4]

end
theorem f4_ok (hp s : List AObj) (ro : Option Nat) (kind : Int) (key val : ByteArray) (X Y : AV) (rs : List RdI) (ws : List WrI) (hro : ∀ k, ro = some k → k ≤ s.length) (hX : SlOf 2 X (rs.map encRd)) (hY : SlOf 3 Y (ws.map encWr)) (hn1 : rs.length ≤ 9223372036854775807) (hn2 : ws.length ≤ 9223372036854775807) :
    callW Try.prog how 4 [.agg [.int .i64 kind, .str key, .str val, X, Y]] ⟨hp, s⟩ ro = some (.agg (opA kind key val (rs.take 10) (ws.take 10)), ⟨hp, s⟩) :=
  f4_c hp s ro kind key val X Y _ _ hro hX.plain hY.plain slV_plain slV_plain (fun st => F15.ok hp (s ++ st) ro 0 0 false X Y rs ws (lt_app hro st) hX hY hn1 hn2)
theorem f5_ok (hp s : List AObj) (ro : Option Nat) (kind : Int) (key val : ByteArray) (rs : List RdI) (ws : List WrI) (hro : ∀ k, ro = some k → k ≤ s.length) (hn1 : rs.length ≤ 900) (hn2 : ws.length ≤ 900) :
    callW Try.prog how 5 [.agg (opA kind key val rs ws)] ⟨hp, s⟩ ro = some (.agg (opA kind key val rs ws), ⟨hp, s⟩) := by
  have e17 : ∀ st, callW Try.prog how 17 [.agg [.int .i64 4, .str ⟨#[]⟩, .str ⟨#[]⟩, slV 2 (rs.map encRd), slV 3 (ws.map encWr)], .agg [.int .i64 0, .int .u64 0]] ⟨hp, s ++ st⟩ ro = some (.agg [.int .i64 0, .int .u64 0, .bool false, slV 2 (rs.map encRd), slV 3 (ws.map encWr)], ⟨hp, s ++ st⟩) := fun st =>
    f17_4 hp (s ++ st) ro 4 0 0 _ _ _ _ (lt_app hro st) slV_plain slV_plain (fun st2 r hr => f26_ok hp _ (some r) _ (fun k hk => by cases hk; exact hr) (by rw [List.length_map]; exact hn1)) (fun st2 r hr => f27_ok hp _ (some r) _ (fun k hk => by cases hk; exact hr) (by rw [List.length_map]; exact hn2))
  exact f5_c hp s ro kind key val _ _ _ _ _ 0 0 false hro slV_plain slV_plain slV_plain slV_plain e17 (fun st => F16.ok hp (s ++ st) ro 0 0 false _ _ rs ws (lt_app hro st) slOf_slV slOf_slV hn1 hn2)
theorem f10_ok (hp s : List AObj) (ro : Option Nat) (x : RowD) (hro : ∀ k, ro = some k → k ≤ s.length) (hn1 : x.rs.length ≤ 10) (hn2 : x.ws.length ≤ 10) :
    callW Try.prog how 10 [encRow x] ⟨hp, s⟩ ro = some (encRow x, ⟨hp, s⟩) := by
  refine f10_c hp s ro x.kind x.key x.val _ _ _ _ _ _ _ _ _ _ _ _ _ _ _ _ hro slV_plain slV_plain slV_plain slV_plain (fun st r hr => ?_)
  have h := f4_ok hp (s ++ st) (some r) x.kind x.key x.val _ _ x.rs x.ws (fun k hk => by cases hk; exact hr) slOf_slV slOf_slV (by omega) (by omega)
  rw [List.take_of_length_le hn1, List.take_of_length_le hn2] at h
  exact h