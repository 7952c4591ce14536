/- The law: the end of a round. -/

import Derived.Test.YtcafckfmhoklkaaDa
open Go Go.Abs Go.Proofs
set_option maxRecDepth 100000
set_option maxHeartbeats 4000000
set_option linter.unusedSimpArgs false
set_option linter.unusedVariables false

theorem built_set {σ : AS} {R : AV} {L : List AV} {j : Nat} {ob : AObj} (hB : Built 0 σ 17 R L) (hne : ∀ im v n, R = .row (.st im) v 0 n → im ≠ j) : Built 0 (σ.set (.st j) ob) 17 R L :=
  Built.keep hB fun im _ _ _ hg ⟨w, n, e⟩ => get_set' hg (hne im w n e)
theorem built_push {σ : AS} {R : AV} {L : List AV} {ob : AObj} (hB : Built 0 σ 17 R L) : Built 0 (σ.push false ob) 17 R L :=
  Built.keep hB fun _ _ _ _ hg _ => get_push' hg
theorem built_lt {σ : AS} {R : AV} {L : List AV} (hB : Built 0 σ 17 R L) : ∀ im v n, R = .row (.st im) v 0 n → im ≠ σ.st.length := by
  intro im v n e
  rcases hB with ⟨h1, _⟩ | ⟨_, im', v', h1, hg, _⟩
  · rw [h1] at e; cases e
  · rw [h1] at e
    cases e
    exact Nat.ne_of_lt (lt_of_get hg)
theorem built_len {σ : AS} {R : AV} {l : List RowD} (hB : Built 0 σ 17 R (l.map encRow)) : lenA Try.prog σ 28 R = some l.length := by
  rcases hB with ⟨h1, h2⟩ | ⟨_, im, v, h1, hg, _⟩
  · have hl0 : l = [] := by simpa using h2
    subst h1 hl0
    simp [lenA]
  · subst h1
    simp [lenA]
theorem built_hp {σ : AS} {R : AV} {L : List AV} (hB : Built 0 σ 17 R L) (hp' : List AObj) : Built 0 (AS.mk hp' σ.st) 17 R L := Built.keep hB fun _ _ _ _ hg _ => hg
theorem fz_row4 {ro : Option Nat} {σ : AS} (x : RowD) : fzL ro σ ((rowC x).drop 5) = some ((rowC x).drop 5, σ) := by
  unfold rowC
  simp only [List.drop_succ_cons, List.drop_zero, fzL, fz_sl]
namespace F3
theorem tail (cx : Cx) (hcx : cx.esc = [22]) (hr0 : cx.ro = none) (hh0 : cx.h = 0) (b k c12 : Nat) (at_ : Int) (hat : 0 ≤ at_ ∧ at_ ≤ 65535) (hk : k < 15) (kind : Int) (key val : ByteArray) (rs0 : List RdI) (ws0 : List WrI) (hn1 : rs0.length ≤ 10) (hn2 : ws0.length ≤ 10) (l H : List RowD) (S : List KeyD) (hL : HL k l H S) (R M : AV) (env : Env) (σ : AS) (hlen : env.length = 156) (code : Int) (rval : ByteArray) (rnum : Int) (e1 : code = (codeOf (ofK S) kind key val rs0 ws0)) (e2 : rval = (rvalOf (ofK S) kind key)) (e3 : rnum = (rnumOf (ofK S) kind key))
    (f1 : Env.get env 1 = .int .u16 at_) (f5 : Env.get env 5 = .ptr (.hp b) 0) (f6 : Env.get env 6 = R) (f12 : Env.get env 12 = .ptr (.st c12) 0)
    (g12 : σ.get (.st c12) = some (.cells [.int .i64 ((k : Int).tmod 6), .int .u64 ((k : Int) + 1), .int .i64 kind, .str key, .str val, slV 2 (rs0.map encRd), slV 3 (ws0.map encWr), .int .i64 (10 * (k : Int) + 1), .int .i64 (10 * (k : Int) + 2), .int .i64 (10 * (k : Int) + 3), .int .i64 code, .int .i64 ((k : Int).tmod 6), .int .u64 ((k : Int) + 1), .int .i64 0, .int .i64 0, .str rval, .int .u64 rnum])) (hB : Built 0 σ 17 R (l.map encRow)) (hA : σ.hp[b]? = some (.cells [M])) (hM : HRow σ.hp M (S.map encK)) :
    ∃ env' σ', execW Try.prog cx [] (callW Try.prog how) (.seq (cr [.r, .r, .r, .l, .r, .i, .i, .r, .r, .l, .i, .r, .r, .r, .r, .r, .r, .r, .r, .r, .r, .r, .r, .l]) (.seq (cr [.r, .r, .r, .l, .r, .i, .i, .r, .r, .l, .i, .r, .r, .r, .r, .r, .r, .r, .r, .r, .r, .r, .r, .r, .l]) (.seq (cr [.r, .r, .r, .l, .r, .i, .i, .r, .r, .l, .i, .r, .r, .r, .r, .r, .r, .r, .r, .r, .r, .r, .r, .r, .r, .l]) (.seq (cr [.r, .r, .r, .l, .r, .i, .i, .r, .r, .l, .i, .r, .r, .r, .r, .r, .r, .r, .r, .r, .r, .r, .r, .r, .r, .r, .l]) (.seq (cr [.r, .r, .r, .l, .r, .i, .i, .r, .r, .l, .i, .r, .r, .r, .r, .r, .r, .r, .r, .r, .r, .r, .r, .r, .r, .r, .r, .l]) (cr [.r, .r, .r, .l, .r, .i, .i, .r, .r, .l, .i, .r, .r, .r, .r, .r, .r, .r, .r, .r, .r, .r, .r, .r, .r, .r, .r, .r])))))) (env, σ) = some (.normal, (env', σ')) ∧ env'.length = 156 ∧ InvM b (k + 1) (Env.get env' 6) σ' ∧ ∀ i ∈ [1, 5, 23, 24, 25], Env.get env' i = Env.get env i := by
  subst e1 e2 e3
  have hw0 : ∀ i, wok cx.ro (.st i) = true := fun i => by rw [hr0]; rfl
  have hhz : ∀ i, cx.h ≤ i := fun i => by rw [hh0]; exact Nat.zero_le _
  have hrN : ∀ n : Nat, ∀ k, cx.ro = some k → k ≤ n := fun _ _ h => by rw [hr0] at h; cases h
  have env0 := env
  have keep0 : ∀ i ∈ [1, 5, 23, 24, 25], Env.get env i = Env.get env i := fun _ _ => rfl
  obtain ⟨env1, x1a, x1b, x1c, x1d⟩ := r27 cx env σ k c12 ((codeOf (ofK S) kind key val rs0 ws0)) 0 ((rvalOf (ofK S) kind key)) ((rnumOf (ofK S) kind key)) kind key val ((slV 2 (rs0.map encRd))) ((slV 3 (ws0.map encWr))) hlen hcx f12 g12 slV_plain slV_plain (hw0 _) (hhz _) 
  have f1 := (x1d 1 (by decide)).trans f1
  have f5 := (x1d 5 (by decide)).trans f5
  have f6 := (x1d 6 (by decide)).trans f6
  have f12 := (x1d 12 (by decide)).trans f12
  have keep1 : ∀ i ∈ [1, 5, 23, 24, 25], Env.get env1 i = Env.get env i := fun i hi => (x1d i (by revert i; decide)).trans (keep0 i hi)
  have g12z := g12
  have g12 := get_set_at (ob' := .cells [.int .i64 ((k : Int).tmod 6), .int .u64 ((k : Int) + 1), .int .i64 kind, .str key, .str val, slV 2 (rs0.map encRd), slV 3 (ws0.map encWr), .int .i64 (10 * (k : Int) + 1), .int .i64 (10 * (k : Int) + 2), .int .i64 (10 * (k : Int) + 3), .int .i64 (codeOf (ofK S) kind key val rs0 ws0), .int .i64 ((k : Int).tmod 6), .int .u64 ((k : Int) + 1), .int .i64 0, .int .i64 (codeOf (ofK S) kind key val rs0 ws0), .str (rvalOf (ofK S) kind key), .int .u64 (rnumOf (ofK S) kind key)]) g12
  have hB := built_set (j := c12) (ob := .cells [.int .i64 ((k : Int).tmod 6), .int .u64 ((k : Int) + 1), .int .i64 kind, .str key, .str val, slV 2 (rs0.map encRd), slV 3 (ws0.map encWr), .int .i64 (10 * (k : Int) + 1), .int .i64 (10 * (k : Int) + 2), .int .i64 (10 * (k : Int) + 3), .int .i64 (codeOf (ofK S) kind key val rs0 ws0), .int .i64 ((k : Int).tmod 6), .int .u64 ((k : Int) + 1), .int .i64 0, .int .i64 (codeOf (ofK S) kind key val rs0 ws0), .str (rvalOf (ofK S) kind key), .int .u64 (rnumOf (ofK S) kind key)]) hB (fun im v n e => by subst e; rcases hB with ⟨h, _⟩ | ⟨_, im', v', h, hg, _⟩; exact absurd h (by simp); cases h; exact st_ne hg g12z (by simp))
  have hA : (σ.set (.st c12) (.cells [.int .i64 ((k : Int).tmod 6), .int .u64 ((k : Int) + 1), .int .i64 kind, .str key, .str val, slV 2 (rs0.map encRd), slV 3 (ws0.map encWr), .int .i64 (10 * (k : Int) + 1), .int .i64 (10 * (k : Int) + 2), .int .i64 (10 * (k : Int) + 3), .int .i64 (codeOf (ofK S) kind key val rs0 ws0), .int .i64 ((k : Int).tmod 6), .int .u64 ((k : Int) + 1), .int .i64 0, .int .i64 (codeOf (ofK S) kind key val rs0 ws0), .str (rvalOf (ofK S) kind key), .int .u64 (rnumOf (ofK S) kind key)])).hp[b]? = some (.cells [M]) := hA
  have hM : HRow (σ.set (.st c12) (.cells [.int .i64 ((k : Int).tmod 6), .int .u64 ((k : Int) + 1), .int .i64 kind, .str key, .str val, slV 2 (rs0.map encRd), slV 3 (ws0.map encWr), .int .i64 (10 * (k : Int) + 1), .int .i64 (10 * (k : Int) + 2), .int .i64 (10 * (k : Int) + 3), .int .i64 (codeOf (ofK S) kind key val rs0 ws0), .int .i64 ((k : Int).tmod 6), .int .u64 ((k : Int) + 1), .int .i64 0, .int .i64 (codeOf (ofK S) kind key val rs0 ws0), .str (rvalOf (ofK S) kind key), .int .u64 (rnumOf (ofK S) kind key)])).hp M (S.map encK) := hM
  generalize σ.set (.st c12) (.cells [.int .i64 ((k : Int).tmod 6), .int .u64 ((k : Int) + 1), .int .i64 kind, .str key, .str val, slV 2 (rs0.map encRd), slV 3 (ws0.map encWr), .int .i64 (10 * (k : Int) + 1), .int .i64 (10 * (k : Int) + 2), .int .i64 (10 * (k : Int) + 3), .int .i64 (codeOf (ofK S) kind key val rs0 ws0), .int .i64 ((k : Int).tmod 6), .int .u64 ((k : Int) + 1), .int .i64 0, .int .i64 (codeOf (ofK S) kind key val rs0 ws0), .str (rvalOf (ofK S) kind key), .int .u64 (rnumOf (ofK S) kind key)]) = τ1 at x1a g12 hB hA hM
  have hsl := hL.slen
  obtain ⟨vb, hp', h9, hset⟩ := F9.ok τ1.hp τ1.st b (rowOf k (ofK S) kind key val rs0 ws0) M S hA hM (by omega) hn1 hn2
  rw [← hr0] at h9
  obtain ⟨env2, x2a, x2b, x2c, x2d⟩ := r28 cx env1 τ1 k c12 ((codeOf (ofK S) kind key val rs0 ws0)) ((codeOf (ofK S) kind key val rs0 ws0)) ((rvalOf (ofK S) kind key)) ((rnumOf (ofK S) kind key)) kind key val ((slV 2 (rs0.map encRd))) ((slV 3 (ws0.map encWr))) b vb _ x1b hcx f5 f12 g12 slV_plain slV_plain (hw0 _) (hhz _) h9 
  have f1 := (x2d 1 (by decide)).trans f1
  have f5 := (x2d 5 (by decide)).trans f5
  have f6 := (x2d 6 (by decide)).trans f6
  have f12 := (x2d 12 (by decide)).trans f12
  have keep2 : ∀ i ∈ [1, 5, 23, 24, 25], Env.get env2 i = Env.get env i := fun i hi => (x2d i (by revert i; decide)).trans (keep1 i hi)
  have g12 : (AS.mk hp' τ1.st).get (.st c12) = _ := g12
  have hB := built_hp hB hp'
  obtain ⟨M', hA', hM'⟩ := hset.2.2
  have hh : (AS.mk hp' τ1.st).hp = hp' := rfl
  generalize AS.mk hp' τ1.st = τ2 at x2a g12 hB hh
  have hll : l.length ≤ 15 := by rw [hL.perm.length_eq]; have := hL.len; omega
  have hcv : convA Try.prog τ2 23 3 (.int .u16 at_) = some (.int .i64 at_) := by
    rw [show convA Try.prog τ2 23 3 (.int .u16 at_) = some (.int .i64 (wr .i64 at_)) by simp [convA], wr_ok (by omega) (by omega)]
  have hR1 : R.one = true := Built.one hB
  obtain ⟨n, hn, hnl⟩ : ∃ n : Nat, at_.tmod ((l.length : Int) + 1) = (n : Int) ∧ n ≤ l.length := by
    have h1 := Int.tmod_nonneg ((l.length : Int) + 1) hat.1
    have h2 : at_.tmod ((l.length : Int) + 1) < (l.length : Int) + 1 := Int.tmod_lt_of_pos _ (by omega)
    exact ⟨(at_.tmod ((l.length : Int) + 1)).toNat, (Int.toNat_of_nonneg h1).symm, by omega⟩
  obtain ⟨env3, x3a, x3b, x3c, x3d⟩ := r29 cx env2 τ2 l.length at_ R x2b hcx f1 f6 (built_len hB) hR1 hcv (wr_ok (by omega) (by omega)) (by omega) 
  have f1 := (x3d 1 (by decide)).trans f1
  have f5 := (x3d 5 (by decide)).trans f5
  have f6 := (x3d 6 (by decide)).trans f6
  have f12 := (x3d 12 (by decide)).trans f12
  have f17 := x3c
  have keep3 : ∀ i ∈ [1, 5, 23, 24, 25], Env.get env3 i = Env.get env i := fun i hi => (x3d i (by revert i; decide)).trans (keep2 i hi)
  rw [hn] at f17
  obtain ⟨Pa, s1, s2, s3⟩ := slice_to (σ := (τ2.push false (.row [] 17 0 false))) (built_push hB) hnl
  have hgj : (τ2.push false (.row [] 17 0 false)).get (.st τ2.st.length) = some (.row [] 17 0 false) := AS.get_push_at rfl
  obtain ⟨v1, a1⟩ := app_row (cx := cx) hr0 hgj s3 (by simp; omega)
  rw [← List.length_append] at a1
  obtain ⟨env4, x4a, x4b, x4c, x4d⟩ := r30 cx env3 τ2 n R Pa _ _ x3b hcx f6 f17 hR1 s1 s2 a1 
  have f1 := (x4d 1 (by decide)).trans f1
  have f5 := (x4d 5 (by decide)).trans f5
  have f6 := (x4d 6 (by decide)).trans f6
  have f12 := (x4d 12 (by decide)).trans f12
  have f17 := (x4d 17 (by decide)).trans f17
  have f18 := x4c
  have keep4 : ∀ i ∈ [1, 5, 23, 24, 25], Env.get env4 i = Env.get env i := fun i hi => (x4d i (by revert i; decide)).trans (keep3 i hi)
  have hgj := get_set_at (ob' := .row ([] ++ (l.take n).map encRow) 17 v1 false) hgj
  have hlt := built_lt hB
  have hB := built_set (j := τ2.st.length) (ob := .row ([] ++ (l.take n).map encRow) 17 v1 false) (built_push (ob := .row [] 17 0 false) hB) hlt
  have hc12 := lt_of_get g12
  have g12 := get_set' (ob' := .row ([] ++ (l.take n).map encRow) 17 v1 false) (get_push' (ob' := .row [] 17 0 false) g12) (Nat.ne_of_lt hc12)
  have hh : ((τ2.push false (.row [] 17 0 false)).set (.st τ2.st.length) (.row ([] ++ (l.take n).map encRow) 17 v1 false)).hp = hp' := hh
  generalize τ2.st.length = j at x4a hgj hlt hB g12 hh f18
  generalize (τ2.push false (.row [] 17 0 false)).set (.st j) (.row ([] ++ (l.take n).map encRow) 17 v1 false) = τ3 at x4a hgj hB g12 hh
  have h10 := f10_ok τ3.hp τ3.st cx.ro (rowOf k (ofK S) kind key val rs0 ws0) (hrN _) hn1 hn2
  have hel : elemsA (τ3.push false (.row [encRow (rowOf k (ofK S) kind key val rs0 ws0)] 17 0 false)) 17 (.row (.st τ3.st.length) 0 0 1) = some [encRow (rowOf k (ofK S) kind key val rs0 ws0)] := by rw [elems_row (AS.get_push_at rfl) (by simp)]; rfl
  obtain ⟨v2, a2⟩ := app_row (cx := cx) hr0 (get_push' (ob' := .row [encRow (rowOf k (ofK S) kind key val rs0 ws0)] 17 0 false) hgj) hel (by simp; omega)
  rw [← List.length_append] at a2
  have hfz := fz_row4 (ro := cx.ro) (σ := τ3) (rowOf k (ofK S) kind key val rs0 ws0)
  obtain ⟨env5, x5a, x5b, x5c, x5d⟩ := r31 cx env4 τ3 k c12 ((codeOf (ofK S) kind key val rs0 ws0)) ((codeOf (ofK S) kind key val rs0 ws0)) ((rvalOf (ofK S) kind key)) ((rnumOf (ofK S) kind key)) kind key val ((slV 2 (rs0.map encRd))) ((slV 3 (ws0.map encWr))) _ _ _ x4b hcx f12 f18 g12 slV_plain slV_plain (hw0 _) (hhz _) rfl h10 hfz a2 
  have f1 := (x5d 1 (by decide)).trans f1
  have f5 := (x5d 5 (by decide)).trans f5
  have f6 := (x5d 6 (by decide)).trans f6
  have f12 := (x5d 12 (by decide)).trans f12
  have f17 := (x5d 17 (by decide)).trans f17
  have f18 := x5c
  have keep5 : ∀ i ∈ [1, 5, 23, 24, 25], Env.get env5 i = Env.get env i := fun i hi => (x5d i (by revert i; decide)).trans (keep4 i hi)
  have hgj := get_set_at (ob' := .row (([] ++ (l.take n).map encRow) ++ [encRow (rowOf k (ofK S) kind key val rs0 ws0)]) 17 v2 false) (get_push' (ob' := .row [encRow (rowOf k (ofK S) kind key val rs0 ws0)] 17 0 false) hgj)
  have hB := built_set (j := j) (ob := .row (([] ++ (l.take n).map encRow) ++ [encRow (rowOf k (ofK S) kind key val rs0 ws0)]) 17 v2 false) (built_push (ob := .row [encRow (rowOf k (ofK S) kind key val rs0 ws0)] 17 0 false) hB) hlt
  have hh : ((τ3.push false (.row [encRow (rowOf k (ofK S) kind key val rs0 ws0)] 17 0 false)).set (.st j) (.row (([] ++ (l.take n).map encRow) ++ [encRow (rowOf k (ofK S) kind key val rs0 ws0)]) 17 v2 false)).hp = hp' := hh
  generalize (τ3.push false (.row [encRow (rowOf k (ofK S) kind key val rs0 ws0)] 17 0 false)).set (.st j) (.row (([] ++ (l.take n).map encRow) ++ [encRow (rowOf k (ofK S) kind key val rs0 ws0)]) 17 v2 false) = τ4 at x5a hgj hB hh
  obtain ⟨Pb, s4, s5, s6⟩ := slice_from hB hnl
  obtain ⟨v3, a3⟩ := app_row (cx := cx) hr0 hgj s6 (by simp; omega)
  rw [← List.length_append] at a3
  obtain ⟨env6, x6a, x6b, x6c, x6d⟩ := r32 cx env5 τ4 n R _ Pb _ _ x5b hcx f6 f17 f18 hR1 rfl s4 s5 a3 
  have f1 := (x6d 1 (by decide)).trans f1
  have f5 := (x6d 5 (by decide)).trans f5
  have f12 := (x6d 12 (by decide)).trans f12
  have f17 := (x6d 17 (by decide)).trans f17
  have f18 := (x6d 18 (by decide)).trans f18
  have f6 := x6c
  have keep6 : ∀ i ∈ [1, 5, 23, 24, 25], Env.get env6 i = Env.get env i := fun i hi => (x6d i (by revert i; decide)).trans (keep5 i hi)
  have hgj := get_set_at (ob' := .row ((([] ++ (l.take n).map encRow) ++ [encRow (rowOf k (ofK S) kind key val rs0 ws0)]) ++ (l.drop n).map encRow) 17 v3 false) hgj
  have hh : (τ4.set (.st j) (.row ((([] ++ (l.take n).map encRow) ++ [encRow (rowOf k (ofK S) kind key val rs0 ws0)]) ++ (l.drop n).map encRow) 17 v3 false)).hp = hp' := hh
  generalize τ4.set (.st j) (.row ((([] ++ (l.take n).map encRow) ++ [encRow (rowOf k (ofK S) kind key val rs0 ws0)]) ++ (l.drop n).map encRow) 17 v3 false) = τ5 at x6a hgj hh
  have hxe : ((([] ++ (l.take n).map encRow) ++ [encRow (rowOf k (ofK S) kind key val rs0 ws0)]) ++ (l.drop n).map encRow) = (l.take n ++ [(rowOf k (ofK S) kind key val rs0 ws0)] ++ l.drop n).map encRow := by simp
  rw [hxe] at f6 hgj
  refine ⟨env6, τ5, (execW_seq_of x1a (execW_seq_of x2a (execW_seq_of x3a (execW_seq_of x4a (execW_seq_of x5a x6a))))), x6b, ?_, keep6⟩
  rw [f6]
  refine ⟨(l.take n ++ [(rowOf k (ofK S) kind key val rs0 ws0)] ++ l.drop n), H ++ [(rowOf k (ofK S) kind key val rs0 ws0)], doK S (rowOf k (ofK S) kind key val rs0 ws0), M', ?_, hL.step n kind key val rs0 ws0 hn1 hn2, by rw [hh]; exact hA', by rw [hh]; exact hM'⟩
  refine ⟨fun e he => ?_, List.pairwise_singleton _ _⟩
  rw [List.mem_singleton] at he; subst he
  exact .inr ⟨by simp, j, v3, rfl, hgj, Nat.zero_le _⟩
end F3
