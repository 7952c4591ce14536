/- What an op's transaction is, in both. -/

import Derived.Test.YtcafckfmhoklkaaCd
open Go Go.Abs Go.Proofs
set_option maxRecDepth 100000
set_option maxHeartbeats 4000000
set_option linter.unusedSimpArgs false
set_option linter.unusedVariables false

/-- What an op's transaction is. -/
def txnP (kind : Int) (key val : ByteArray) (rs : List RdI) (ws : List WrI) : Bool × List RdI × List WrI :=
  if kind = 2 then (true, [], [(key, val, false)]) else if kind = 3 then (true, [], [(key, ⟨#[]⟩, true)]) else if kind = 4 then (false, rs, ws) else (false, [], [])
section
attribute [local simp] ofV ofCell ofCells seqA_nil seqA_cons seqVK_eq seqEK_eq wantedA yieldedA isVal effA ev evs evps putE optsA optsOk valA fieldAddrA fieldA loadA partA aggA isAggD buildA placesA fillA lay storeA AV.withCells buildSliceA elemsA rowParts fzL promL okE isSrc bytesOk pushA cxOf lenA binA intBinA strBinA unA indexAddrA eqA AVs.inb AV.inb Loc.inb calleeA opsOf sub bodyOf Env.get_set quietA_nil quietA_cons quietK_none quietK_some qstep newA isNew escNew boxOk newLoc flat rowPartsQ quietN quietOp isBS List.takeWhile finishA_eq finK_ret finK_normal retK backK resA oneA AV.back AVs.back execW_seq_eq seqK_normal seqK_ret seqK_exit execW_cond_eq condK_true condK_false execW_block_eq blockK_exit blockK_normal blockK_ret execW_region_eq regK_eq execW_skip execW_exit execW_ret regionA_plain regionA_quiet0 tailK_eq nilCheckA guardOk isConst lookupA keyFits mapUpdateA beqI bneI
theorem f8_2 (hp s : List AObj) (ro : Option Nat) (kind cl sq : Int) (key val : ByteArray) (X Y : AV) (hro : ∀ k, ro = some k → k ≤ s.length) (hX : Plain X) (hY : Plain Y) :
    callW Try.prog how 8 [.agg [.int .i64 2, .str key, .str val, X, Y], .agg [.int .i64 cl, .int .u64 sq]] ⟨hp, s⟩ ro = some (.agg [.int .i64 cl, .int .u64 sq, .bool true, .nils, .sl false 3 [.agg [.str key, .str val, .bool false]]], ⟨hp, s⟩) := by
  refine callW_body (fl := {}) (fn := Try.f8) (c := bodyOf Try.f8) rfl Try.func8 rfl ?_
  have henv : ∃ e, e = frameA Try.f8 [.agg [.int .i64 2, .str key, .str val, X, Y], .agg [.int .i64 cl, .int .u64 sq]] := ⟨_, rfl⟩
  obtain ⟨env, henv⟩ := henv
  have hl : env.length = 35 := by rw [henv]; rfl
  have h0 : Env.get env 0 = .agg [.int .i64 2, .str key, .str val, X, Y] := by rw [henv]; rfl
  have h1 : Env.get env 1 = .agg [.int .i64 cl, .int .u64 sq] := by rw [henv]; rfl
  rw [← henv]
  clear henv
  have hnl : ¬ (s.length + 3 < s.length) := by omega
  simp -implicitDefEqProofs [Try.f8, hl, h0, h1, wok_le hro, wok_le' hro, hX.cells, hY.cells, elemA, hX.one, hX.inb, hX.row, hX.back, hY.one, hY.inb, hY.row, hY.back, hnl]

theorem f8_3 (hp s : List AObj) (ro : Option Nat) (kind cl sq : Int) (key val : ByteArray) (X Y : AV) (hro : ∀ k, ro = some k → k ≤ s.length) (hX : Plain X) (hY : Plain Y) :
    callW Try.prog how 8 [.agg [.int .i64 3, .str key, .str val, X, Y], .agg [.int .i64 cl, .int .u64 sq]] ⟨hp, s⟩ ro = some (.agg [.int .i64 cl, .int .u64 sq, .bool true, .nils, .sl false 3 [.agg [.str key, .str ⟨#[]⟩, .bool true]]], ⟨hp, s⟩) := by
  refine callW_body (fl := {}) (fn := Try.f8) (c := bodyOf Try.f8) rfl Try.func8 rfl ?_
  have henv : ∃ e, e = frameA Try.f8 [.agg [.int .i64 3, .str key, .str val, X, Y], .agg [.int .i64 cl, .int .u64 sq]] := ⟨_, rfl⟩
  obtain ⟨env, henv⟩ := henv
  have hl : env.length = 35 := by rw [henv]; rfl
  have h0 : Env.get env 0 = .agg [.int .i64 3, .str key, .str val, X, Y] := by rw [henv]; rfl
  have h1 : Env.get env 1 = .agg [.int .i64 cl, .int .u64 sq] := by rw [henv]; rfl
  rw [← henv]
  clear henv
  have hnl : ¬ (s.length + 3 < s.length) := by omega
  simp -implicitDefEqProofs [Try.f8, hl, h0, h1, wok_le hro, wok_le' hro, hX.cells, hY.cells, elemA, hX.one, hX.inb, hX.row, hX.back, hY.one, hY.inb, hY.row, hY.back, hnl]

theorem f8_4 (hp s : List AObj) (ro : Option Nat) (kind cl sq : Int) (key val : ByteArray) (X Y : AV) (hro : ∀ k, ro = some k → k ≤ s.length) (hX : Plain X) (hY : Plain Y) :
    callW Try.prog how 8 [.agg [.int .i64 4, .str key, .str val, X, Y], .agg [.int .i64 cl, .int .u64 sq]] ⟨hp, s⟩ ro = some (.agg [.int .i64 cl, .int .u64 sq, .bool false, X, Y], ⟨hp, s⟩) := by
  refine callW_body (fl := {}) (fn := Try.f8) (c := bodyOf Try.f8) rfl Try.func8 rfl ?_
  have henv : ∃ e, e = frameA Try.f8 [.agg [.int .i64 4, .str key, .str val, X, Y], .agg [.int .i64 cl, .int .u64 sq]] := ⟨_, rfl⟩
  obtain ⟨env, henv⟩ := henv
  have hl : env.length = 35 := by rw [henv]; rfl
  have h0 : Env.get env 0 = .agg [.int .i64 4, .str key, .str val, X, Y] := by rw [henv]; rfl
  have h1 : Env.get env 1 = .agg [.int .i64 cl, .int .u64 sq] := by rw [henv]; rfl
  rw [← henv]
  clear henv
  have hnl : ¬ (s.length + 3 < s.length) := by omega
  simp -implicitDefEqProofs [Try.f8, hl, h0, h1, wok_le hro, wok_le' hro, hX.cells, hY.cells, elemA, hX.one, hX.inb, hX.row, hX.back, hY.one, hY.inb, hY.row, hY.back, hnl]

theorem f8_o (hp s : List AObj) (ro : Option Nat) (kind cl sq : Int) (key val : ByteArray) (X Y : AV) (hro : ∀ k, ro = some k → k ≤ s.length) (hX : Plain X) (hY : Plain Y) (q2 : ¬ kind = 2) (q3 : ¬ kind = 3) (q4 : ¬ kind = 4) :
    callW Try.prog how 8 [.agg [.int .i64 kind, .str key, .str val, X, Y], .agg [.int .i64 cl, .int .u64 sq]] ⟨hp, s⟩ ro = some (.agg [.int .i64 0, .int .u64 0, .bool false, .nils, .nils], ⟨hp, s⟩) := by
  refine callW_body (fl := {}) (fn := Try.f8) (c := bodyOf Try.f8) rfl Try.func8 rfl ?_
  have henv : ∃ e, e = frameA Try.f8 [.agg [.int .i64 kind, .str key, .str val, X, Y], .agg [.int .i64 cl, .int .u64 sq]] := ⟨_, rfl⟩
  obtain ⟨env, henv⟩ := henv
  have hl : env.length = 35 := by rw [henv]; rfl
  have h0 : Env.get env 0 = .agg [.int .i64 kind, .str key, .str val, X, Y] := by rw [henv]; rfl
  have h1 : Env.get env 1 = .agg [.int .i64 cl, .int .u64 sq] := by rw [henv]; rfl
  rw [← henv]
  clear henv
  have hnl : ¬ (s.length + 3 < s.length) := by omega
  simp -implicitDefEqProofs [Try.f8, hl, h0, h1, wok_le hro, wok_le' hro, hX.cells, hY.cells, elemA, hX.one, hX.inb, hX.row, hX.back, hY.one, hY.inb, hY.row, hY.back, q2, q3, q4, hnl]

theorem f17_2 (hp s : List AObj) (ro : Option Nat) (kind cl sq : Int) (key val : ByteArray) (X Y : AV) (hro : ∀ k, ro = some k → k ≤ s.length) (hX : Plain X) (hY : Plain Y) :
    callW Try.prog how 17 [.agg [.int .i64 2, .str key, .str val, X, Y], .agg [.int .i64 cl, .int .u64 sq]] ⟨hp, s⟩ ro = some (.agg [.int .i64 cl, .int .u64 sq, .bool true, .nils, .sl false 3 [.agg [.str key, .str val, .bool false]]], ⟨hp, s⟩) := by
  refine callW_body (fl := {}) (fn := Try.f17) (c := bodyOf Try.f17) rfl Try.func17 rfl ?_
  have henv : ∃ e, e = frameA Try.f17 [.agg [.int .i64 2, .str key, .str val, X, Y], .agg [.int .i64 cl, .int .u64 sq]] := ⟨_, rfl⟩
  obtain ⟨env, henv⟩ := henv
  have hl : env.length = 36 := by rw [henv]; rfl
  have h0 : Env.get env 0 = .agg [.int .i64 2, .str key, .str val, X, Y] := by rw [henv]; rfl
  have h1 : Env.get env 1 = .agg [.int .i64 cl, .int .u64 sq] := by rw [henv]; rfl
  rw [← henv]
  clear henv
  have hnl : ¬ (s.length + 3 < s.length) := by omega
  simp -implicitDefEqProofs [Try.f17, hl, h0, h1, wok_le hro, wok_le' hro, hX.cells, hY.cells, elemA, hX.one, hX.inb, hX.row, hX.back, hY.one, hY.inb, hY.row, hY.back, hnl]

theorem f17_3 (hp s : List AObj) (ro : Option Nat) (kind cl sq : Int) (key val : ByteArray) (X Y : AV) (hro : ∀ k, ro = some k → k ≤ s.length) (hX : Plain X) (hY : Plain Y) :
    callW Try.prog how 17 [.agg [.int .i64 3, .str key, .str val, X, Y], .agg [.int .i64 cl, .int .u64 sq]] ⟨hp, s⟩ ro = some (.agg [.int .i64 cl, .int .u64 sq, .bool true, .nils, .sl false 3 [.agg [.str key, .str ⟨#[]⟩, .bool true]]], ⟨hp, s⟩) := by
  refine callW_body (fl := {}) (fn := Try.f17) (c := bodyOf Try.f17) rfl Try.func17 rfl ?_
  have henv : ∃ e, e = frameA Try.f17 [.agg [.int .i64 3, .str key, .str val, X, Y], .agg [.int .i64 cl, .int .u64 sq]] := ⟨_, rfl⟩
  obtain ⟨env, henv⟩ := henv
  have hl : env.length = 36 := by rw [henv]; rfl
  have h0 : Env.get env 0 = .agg [.int .i64 3, .str key, .str val, X, Y] := by rw [henv]; rfl
  have h1 : Env.get env 1 = .agg [.int .i64 cl, .int .u64 sq] := by rw [henv]; rfl
  rw [← henv]
  clear henv
  have hnl : ¬ (s.length + 3 < s.length) := by omega
  simp -implicitDefEqProofs [Try.f17, hl, h0, h1, wok_le hro, wok_le' hro, hX.cells, hY.cells, elemA, hX.one, hX.inb, hX.row, hX.back, hY.one, hY.inb, hY.row, hY.back, hnl]

theorem f17_4 (hp s : List AObj) (ro : Option Nat) (kind cl sq : Int) (key val : ByteArray) (X Y : AV) (hro : ∀ k, ro = some k → k ≤ s.length) (hX : Plain X) (hY : Plain Y) (h26 : ∀ st ro, ro ≤ (s ++ st).length → callW Try.prog how 26 [X] ⟨hp, s ++ st⟩ (some ro) = some (X, ⟨hp, s ++ st⟩)) (h27 : ∀ st ro, ro ≤ (s ++ st).length → callW Try.prog how 27 [Y] ⟨hp, s ++ st⟩ (some ro) = some (Y, ⟨hp, s ++ st⟩)) :
    callW Try.prog how 17 [.agg [.int .i64 4, .str key, .str val, X, Y], .agg [.int .i64 cl, .int .u64 sq]] ⟨hp, s⟩ ro = some (.agg [.int .i64 cl, .int .u64 sq, .bool false, X, Y], ⟨hp, s⟩) := by
  refine callW_body (fl := {}) (fn := Try.f17) (c := bodyOf Try.f17) rfl Try.func17 rfl ?_
  have henv : ∃ e, e = frameA Try.f17 [.agg [.int .i64 4, .str key, .str val, X, Y], .agg [.int .i64 cl, .int .u64 sq]] := ⟨_, rfl⟩
  obtain ⟨env, henv⟩ := henv
  have hl : env.length = 36 := by rw [henv]; rfl
  have h0 : Env.get env 0 = .agg [.int .i64 4, .str key, .str val, X, Y] := by rw [henv]; rfl
  have h1 : Env.get env 1 = .agg [.int .i64 cl, .int .u64 sq] := by rw [henv]; rfl
  rw [← henv]
  clear henv
  have hnl : ¬ (s.length + 3 < s.length) := by omega
  simp -implicitDefEqProofs [Try.f17, hl, h0, h1, wok_le hro, wok_le' hro, hX.cells, hY.cells, elemA, hX.one, hX.inb, hX.row, hX.back, hY.one, hY.inb, hY.row, hY.back, h26, h27, hnl]

theorem f17_o (hp s : List AObj) (ro : Option Nat) (kind cl sq : Int) (key val : ByteArray) (X Y : AV) (hro : ∀ k, ro = some k → k ≤ s.length) (hX : Plain X) (hY : Plain Y) (q2 : ¬ kind = 2) (q3 : ¬ kind = 3) (q4 : ¬ kind = 4) :
    callW Try.prog how 17 [.agg [.int .i64 kind, .str key, .str val, X, Y], .agg [.int .i64 cl, .int .u64 sq]] ⟨hp, s⟩ ro = some (.agg [.int .i64 0, .int .u64 0, .bool false, .nils, .nils], ⟨hp, s⟩) := by
  refine callW_body (fl := {}) (fn := Try.f17) (c := bodyOf Try.f17) rfl Try.func17 rfl ?_
  have henv : ∃ e, e = frameA Try.f17 [.agg [.int .i64 kind, .str key, .str val, X, Y], .agg [.int .i64 cl, .int .u64 sq]] := ⟨_, rfl⟩
  obtain ⟨env, henv⟩ := henv
  have hl : env.length = 36 := by rw [henv]; rfl
  have h0 : Env.get env 0 = .agg [.int .i64 kind, .str key, .str val, X, Y] := by rw [henv]; rfl
  have h1 : Env.get env 1 = .agg [.int .i64 cl, .int .u64 sq] := by rw [henv]; rfl
  rw [← henv]
  clear henv
  have hnl : ¬ (s.length + 3 < s.length) := by omega
  simp -implicitDefEqProofs [Try.f17, hl, h0, h1, wok_le hro, wok_le' hro, hX.cells, hY.cells, elemA, hX.one, hX.inb, hX.row, hX.back, hY.one, hY.inb, hY.row, hY.back, q2, q3, q4, hnl]

end
theorem f8_ok (hp s : List AObj) (ro : Option Nat) (kind cl sq : Int) (key val : ByteArray) (X Y : AV) (rs : List RdI) (ws : List WrI) (hro : ∀ k, ro = some k → k ≤ s.length) (hX : SlOf 2 X (rs.map encRd)) (hY : SlOf 3 Y (ws.map encWr)) :
    ∃ cl' sq' X' Y', callW Try.prog how 8 [.agg [.int .i64 kind, .str key, .str val, X, Y], .agg [.int .i64 cl, .int .u64 sq]] ⟨hp, s⟩ ro = some (.agg [.int .i64 cl', .int .u64 sq', .bool (txnP kind key val rs ws).1, X', Y'], ⟨hp, s⟩) ∧ SlOf 2 X' ((txnP kind key val rs ws).2.1.map encRd) ∧ SlOf 3 Y' ((txnP kind key val rs ws).2.2.map encWr) := by
  have a1 := hX.plain
  have a2 := hY.plain
  by_cases q2 : kind = 2
  · subst q2
    exact ⟨_, _, _, _, f8_2 hp s ro 2 cl sq key val X Y hro a1 a2, .inl ⟨rfl, rfl⟩, .inr rfl⟩
  by_cases q3 : kind = 3
  · subst q3
    exact ⟨_, _, _, _, f8_3 hp s ro 3 cl sq key val X Y hro a1 a2, .inl ⟨rfl, rfl⟩, .inr rfl⟩
  by_cases q4 : kind = 4
  · subst q4
    exact ⟨_, _, _, _, f8_4 hp s ro 4 cl sq key val X Y hro a1 a2, hX, hY⟩
  · have e : txnP kind key val rs ws = (false, [], []) := by simp [txnP, q2, q3, q4]
    rw [e]
    exact ⟨_, _, _, _, f8_o hp s ro kind cl sq key val X Y hro a1 a2 q2 q3 q4, .inl ⟨rfl, rfl⟩, .inl ⟨rfl, rfl⟩⟩
theorem f17_ok (hp s : List AObj) (ro : Option Nat) (kind cl sq : Int) (key val : ByteArray) (X Y : AV) (rs : List RdI) (ws : List WrI) (hro : ∀ k, ro = some k → k ≤ s.length) (hX : SlOf 2 X (rs.map encRd)) (hY : SlOf 3 Y (ws.map encWr)) (hXe : X = slV 2 (rs.map encRd)) (hYe : Y = slV 3 (ws.map encWr)) (hn1 : rs.length ≤ 900) (hn2 : ws.length ≤ 900) :
    ∃ cl' sq' X' Y', callW Try.prog how 17 [.agg [.int .i64 kind, .str key, .str val, X, Y], .agg [.int .i64 cl, .int .u64 sq]] ⟨hp, s⟩ ro = some (.agg [.int .i64 cl', .int .u64 sq', .bool (txnP kind key val rs ws).1, X', Y'], ⟨hp, s⟩) ∧ SlOf 2 X' ((txnP kind key val rs ws).2.1.map encRd) ∧ SlOf 3 Y' ((txnP kind key val rs ws).2.2.map encWr) := by
  have a1 := hX.plain
  have a2 := hY.plain
  by_cases q2 : kind = 2
  · subst q2
    exact ⟨_, _, _, _, f17_2 hp s ro 2 cl sq key val X Y hro a1 a2, .inl ⟨rfl, rfl⟩, .inr rfl⟩
  by_cases q3 : kind = 3
  · subst q3
    exact ⟨_, _, _, _, f17_3 hp s ro 3 cl sq key val X Y hro a1 a2, .inl ⟨rfl, rfl⟩, .inr rfl⟩
  by_cases q4 : kind = 4
  · subst q4
    exact ⟨_, _, _, _, f17_4 hp s ro 4 cl sq key val X Y hro a1 a2 (fun st r hr => by rw [hXe]; exact f26_ok hp (s ++ st) (some r) _ (fun k hk => by cases hk; exact hr) (by rw [List.length_map]; exact hn1)) (fun st r hr => by rw [hYe]; exact f27_ok hp (s ++ st) (some r) _ (fun k hk => by cases hk; exact hr) (by rw [List.length_map]; exact hn2)), hX, hY⟩
  · have e : txnP kind key val rs ws = (false, [], []) := by simp [txnP, q2, q3, q4]
    rw [e]
    exact ⟨_, _, _, _, f17_o hp s ro kind cl sq key val X Y hro a1 a2 q2 q3 q4, .inl ⟨rfl, rfl⟩, .inl ⟨rfl, rfl⟩⟩