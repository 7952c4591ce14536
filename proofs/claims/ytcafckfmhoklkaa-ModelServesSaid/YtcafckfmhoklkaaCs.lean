/- The insertion sort: its loops. -/

import Derived.Test.YtcafckfmhoklkaaCr
open Go Go.Abs Go.Proofs
set_option maxRecDepth 100000
set_option maxHeartbeats 4000000
set_option linter.unusedSimpArgs false
set_option linter.unusedVariables false

namespace F40
def jOf (k : Nat) (st : St) : Nat := match Env.get st.1 k with
  | .int _ k => k.toNat
  | _ => 0
def InvI (hp s : List AObj) (i v n m : Nat) (L0 : List RowD) (st : St) : Prop := ∃ (l : List RowD) (j : Nat), j ≤ m ∧ l.length = n ∧ l.Perm L0 ∧ SortBut l m j ∧ st.2 = ⟨hp, stS s i v l⟩ ∧ st.1.length = 53 ∧ Env.get st.1 0 = .row (.st i) v 0 n ∧ Env.get st.1 1 = .int .i64 0 ∧ Env.get st.1 2 = .int .i64 (n : Int) ∧ Env.get st.1 3 = .fn (.func 32) [] [] ∧ Env.get st.1 8 = .int .i64 (m : Int) ∧ Env.get st.1 9 = .int .i64 (j : Int)
def EndI (hp s : List AObj) (i v n m : Nat) (L0 : List RowD) (st : St) : Prop := ∃ (l : List RowD), l.length = n ∧ l.Perm L0 ∧ SortTo l (m + 1) ∧ st.2 = ⟨hp, stS s i v l⟩ ∧ st.1.length = 53 ∧ Env.get st.1 0 = .row (.st i) v 0 n ∧ Env.get st.1 1 = .int .i64 0 ∧ Env.get st.1 2 = .int .i64 (n : Int) ∧ Env.get st.1 3 = .fn (.func 32) [] [] ∧ Env.get st.1 8 = .int .i64 (m : Int)
theorem row_inbA (x : RowD) (n : Nat) : (encRow x).inb n = true := row_inb x n
theorem inner_eq : (cr [.r, .i, .i, .r, .l, .i, .r]) = .block 2 (.loop (.seq (.seq (cr [.r, .i, .i, .r, .l, .i, .r, .i, .i, .l, .l]) (cr [.r, .i, .i, .r, .l, .i, .r, .i, .i, .l, .r])) (.seq (.block 3 (cr [.r, .i, .i, .r, .l, .i, .r, .i, .i, .r, .l, .i])) (cr [.r, .i, .i, .r, .l, .i, .r, .i, .i, .r, .r])))) := by kernel_rfl
theorem inner_step (h : Nat) (ro : Option Nat) (hp s : List AObj) (i v n m : Nat) (L0 : List RowD) (hi : i < s.length) (hw : wok ro (.st i) = true) (hm : m < n) (hn : n ≤ 900) : ∀ st : St, InvI hp s i v n m L0 st →
    ∃ e st1, execW Try.prog (Cx.mk h ro []) [2000006] (callW Try.prog how) (.seq (.seq (cr [.r, .i, .i, .r, .l, .i, .r, .i, .i, .l, .l]) (cr [.r, .i, .i, .r, .l, .i, .r, .i, .i, .l, .r])) (.seq (.block 3 (cr [.r, .i, .i, .r, .l, .i, .r, .i, .i, .r, .l, .i])) (cr [.r, .i, .i, .r, .l, .i, .r, .i, .i, .r, .r]))) st = some (e, st1) ∧ ((e = .normal ∧ InvI hp s i v n m L0 st1 ∧ jOf 9 st1 < jOf 9 st) ∨ (e ≠ .normal ∧ (e = .exit 2 ∧ EndI hp s i v n m L0 st1))) := by
  rintro ⟨env, σ⟩ ⟨l, j, hj, hl, hp1, hs, hσ, hlen, f0, f1, f2, f3, f8, f9⟩
  simp only at hσ hlen f0 f1 f2 f3 f8 f9
  subst hσ
  have hg := stS_get (hp := hp) (v := v) (l := l) hi
  have hkof : jOf 9 (env, ⟨hp, stS s i v l⟩) = j := by simp [jOf, f9]
  rw [hkof]
  cases j with
  | zero =>
    have f9 : Env.get env 9 = .int .i64 0 := f9
    obtain ⟨env1, x1a, x1b, x1c, x1d⟩ := rP (Cx.mk h ro []) env (AS.mk hp (stS s i v l))  hlen rfl f1 f9  
    have f0 := (x1d 0 (by decide)).trans f0
    have f1 := (x1d 1 (by decide)).trans f1
    have f2 := (x1d 2 (by decide)).trans f2
    have f3 := (x1d 3 (by decide)).trans f3
    have f8 := (x1d 8 (by decide)).trans f8
    have f9 := (x1d 9 (by decide)).trans f9
    have f34 := x1c
    have ev1 := ev_tmp f34
    exact ⟨.exit 2, (env1, _), (execW_seq_exit (execW_seq_of x1a (execW_cond_f ev1 (by rfl)))), .inr ⟨by simp, rfl, l, hl, hp1, to_zero hs, rfl, x1b, f0, f1, f2, f3, f8⟩⟩
  | succ j =>
    have f9 : Env.get env 9 = .int .i64 ((j : Int) + 1) := f9
    have hj1 : j + 1 < l.length := by omega
    have hj0 : j < l.length := by omega
    have hw1 : wr .i64 ((j : Int) + 1 - 1) = (j : Int) := by rw [wr_ok (by omega) (by omega)]; omega
    have hw2 : wr .i64 (j : Int) = (j : Int) := wr_ok (by omega) (by omega)
    have hi1 := idx_row hg hj1
    have hi2 := idx_row hg hj0
    rw [hl] at hi1 hi2
    have hi1 : indexAddrA Try.prog (AS.mk hp (stS s i v l)) 28 (.row (.st i) v 0 n) (.int .i64 ((j : Int) + 1)) = some (.eptr (.st i) v (j + 1) 0) := hi1
    have hl1 := load_row (v := v) hg hj1
    have hl2 := load_row (v := v) hg hj0
    have h32 := f32_c hp (stS s i v l) (some (stS s i v l).length) l[j + 1] _ _ l[j] _ _ (fun k hk => by cases hk; exact Nat.le_refl _) (slV_plain (sz := 2) (l := l[j + 1].rs.map encRd)) (slV_plain (sz := 3) (l := l[j + 1].ws.map encWr)) (slV_plain (sz := 2) (l := l[j].rs.map encRd)) (slV_plain (sz := 3) (l := l[j].ws.map encWr))
    obtain ⟨env1, x1a, x1b, x1c, x1d⟩ := rQ (Cx.mk h ro []) env (AS.mk hp (stS s i v l)) i v n j _ ((encRow l[j + 1])) ((encRow l[j])) hlen rfl f0 f1 f3 f9 (row_inbA _) (row_inbA _) (by omega) hw1 hw2 hi1 hl1 hi2 hl2 h32 
    have f0 := (x1d 0 (by decide)).trans f0
    have f1 := (x1d 1 (by decide)).trans f1
    have f2 := (x1d 2 (by decide)).trans f2
    have f3 := (x1d 3 (by decide)).trans f3
    have f8 := (x1d 8 (by decide)).trans f8
    have f9 := (x1d 9 (by decide)).trans f9
    have f34 := x1c
    have ev1 := ev_tmp f34
    by_cases hc : l[j + 1].st < l[j].st
    · have e1 : decide (cmpI l[j + 1].st l[j].st < 0) = true := by unfold cmpI; rw [if_pos hc]; rfl
      rw [e1] at ev1
      have hgb := stS_get (hp := hp) (v := v) (l := l.set (j + 1) l[j]) hi
      have hi1b := idx_row hgb (k := j + 1) (by rw [List.length_set]; exact hj1)
      have hi2b := idx_row hgb (k := j) (by rw [List.length_set]; exact hj0)
      rw [List.length_set, hl] at hi1b hi2b
      have hi1b : indexAddrA Try.prog (AS.mk hp (stS s i v (l.set (j + 1) l[j]))) 28 (.row (.st i) v 0 n) (.int .i64 ((j : Int) + 1)) = some (.eptr (.st i) v (j + 1) 0) := hi1b
      have hs1 := store_row (cx := (Cx.mk h ro [])) hg hj1 hw l[j]
      rw [stS_set] at hs1
      have hs2 := store_row (cx := (Cx.mk h ro [])) hgb (k := j) (by rw [List.length_set]; exact hj0) hw l[j + 1]
      rw [stS_set] at hs2
      obtain ⟨env2, x2a, x2b, x2c, x2d⟩ := mx h ro hp (stS s i v l) env1 i v n j ((encRow l[j + 1])) ((encRow l[j])) ((stS s i v (l.set (j + 1) l[j]))) ((stS s i v (swapL l j hj1))) x1b f0 f9 hw1 hw2 hi1 hi2 hi1b hi2b hl1 hl2 hs1 hs2
      have f0 := (x2d 0 (by decide)).trans f0
      have f1 := (x2d 1 (by decide)).trans f1
      have f2 := (x2d 2 (by decide)).trans f2
      have f3 := (x2d 3 (by decide)).trans f3
      have f8 := (x2d 8 (by decide)).trans f8
      have f9 := (x2d 9 (by decide)).trans f9
      have f34 := (x2d 34 (by decide)).trans f34
      obtain ⟨env3, x3a, x3b, x3c, x3d⟩ := rV (Cx.mk h ro []) env2 (AS.mk hp (stS s i v (swapL l j hj1))) j x2b rfl f9 hw1 hw2 
      have f0 := (x3d 0 (by decide)).trans f0
      have f1 := (x3d 1 (by decide)).trans f1
      have f2 := (x3d 2 (by decide)).trans f2
      have f3 := (x3d 3 (by decide)).trans f3
      have f8 := (x3d 8 (by decide)).trans f8
      have f34 := (x3d 34 (by decide)).trans f34
      have f9 := x3c
      refine ⟨.normal, (env3, _), (execW_seq_of (execW_seq_of x1a (execW_cond_t ev1 (by rfl))) (execW_seq_of (execW_block_of x2a) x3a)), .inl ⟨rfl, ⟨swapL l j hj1, j, by omega, by rw [swap_len, hl], (swap_perm hj1).trans hp1, swap_but hj1 hs hj hc, rfl, x3b, f0, f1, f2, f3, f8, f9⟩, ?_⟩⟩
      have : jOf 9 (env3, AS.mk hp (stS s i v (swapL l j hj1))) = j := by simp [jOf, f9]
      rw [this]; exact Nat.lt_succ_self j
    · have e1 : decide (cmpI l[j + 1].st l[j].st < 0) = false := by unfold cmpI; rw [if_neg hc]; split <;> rfl
      rw [e1] at ev1
      exact ⟨.exit 2, (env1, _), (execW_seq_exit (execW_seq_of x1a (execW_cond_f ev1 (by rfl)))), .inr ⟨by simp, rfl, l, hl, hp1, to_of hj1 hs hj (by omega), rfl, x1b, f0, f1, f2, f3, f8⟩⟩
def InvO (hp s : List AObj) (i v n : Nat) (L0 : List RowD) (st : St) : Prop := ∃ (l : List RowD) (m : Nat), 1 ≤ m ∧ l.length = n ∧ l.Perm L0 ∧ SortTo l m ∧ st.2 = ⟨hp, stS s i v l⟩ ∧ st.1.length = 53 ∧ Env.get st.1 0 = .row (.st i) v 0 n ∧ Env.get st.1 1 = .int .i64 0 ∧ Env.get st.1 2 = .int .i64 (n : Int) ∧ Env.get st.1 3 = .fn (.func 32) [] [] ∧ Env.get st.1 8 = .int .i64 (m : Int)
theorem outer_eq : (cr [.r]) = .block 0 (.loop (.seq (.seq (cr [.r, .i, .i, .l, .l]) (cr [.r, .i, .i, .l, .r])) (.seq (.block 1 (.seq (cr [.r, .i, .i, .r, .l, .i, .l]) (cr [.r, .i, .i, .r, .l, .i, .r]))) (cr [.r, .i, .i, .r, .r])))) := by kernel_rfl
theorem outer_step (h : Nat) (ro : Option Nat) (hp s : List AObj) (i v n : Nat) (L0 : List RowD) (hi : i < s.length) (hw : wok ro (.st i) = true) (hn : n ≤ 900) : ∀ st : St, InvO hp s i v n L0 st →
    ∃ e st1, execW Try.prog (Cx.mk h ro []) [2000006] (callW Try.prog how) (.seq (.seq (cr [.r, .i, .i, .l, .l]) (cr [.r, .i, .i, .l, .r])) (.seq (.block 1 (.seq (cr [.r, .i, .i, .r, .l, .i, .l]) (cr [.r, .i, .i, .r, .l, .i, .r]))) (cr [.r, .i, .i, .r, .r]))) st = some (e, st1) ∧ ((e = .normal ∧ InvO hp s i v n L0 st1 ∧ n - jOf 8 st1 < n - jOf 8 st) ∨ (e ≠ .normal ∧ (e = .exit 0 ∧ ∃ l : List RowD, l.Perm L0 ∧ SortTo l n ∧ st1.2 = ⟨hp, stS s i v l⟩))) := by
  rintro ⟨env, σ⟩ ⟨l, m, hm1, hl, hp1, hs, hσ, hlen, f0, f1, f2, f3, f8⟩
  simp only at hσ hlen f0 f1 f2 f3 f8
  subst hσ
  have hkof : jOf 8 (env, ⟨hp, stS s i v l⟩) = m := by simp [jOf, f8]
  rw [hkof]
  by_cases q : (m : Int) < (n : Int)
  · skip
    obtain ⟨env1, x1a, x1b, x1c, x1d⟩ := rT (Cx.mk h ro []) env (AS.mk hp (stS s i v l)) m n hlen rfl f8 f2 q 
    have f0 := (x1d 0 (by decide)).trans f0
    have f1 := (x1d 1 (by decide)).trans f1
    have f2 := (x1d 2 (by decide)).trans f2
    have f3 := (x1d 3 (by decide)).trans f3
    have f8 := (x1d 8 (by decide)).trans f8
    have f14 := x1c
    have ev1 := ev_tmp f14
    obtain ⟨env2, x2a, x2b, x2c, x2d⟩ := rB (Cx.mk h ro []) env1 (AS.mk hp (stS s i v l)) m x1b rfl f8  
    have f0 := (x2d 0 (by decide)).trans f0
    have f1 := (x2d 1 (by decide)).trans f1
    have f2 := (x2d 2 (by decide)).trans f2
    have f3 := (x2d 3 (by decide)).trans f3
    have f8 := (x2d 8 (by decide)).trans f8
    have f14 := (x2d 14 (by decide)).trans f14
    have f9 := x2c
    obtain ⟨e, ⟨env9, σ9⟩, r, he, hex, l2, hl2, hp2, hs2, hσ2, hlen2, f0, f1, f2, f3, f8⟩ := while_exit (inner_step h ro hp s i v n m L0 hi hw (by omega) hn) _ (env2, AS.mk hp (stS s i v l)) (Nat.le_refl _) ⟨l, m, Nat.le_refl _, hl, hp1, but_of_to hs, rfl, x2b, f0, f1, f2, f3, f8, f9⟩
    simp only at hσ2 hlen2 f0 f1 f2 f3 f8
    subst hσ2 hex
    have rb := block_out r
    rw [← inner_eq] at rb
    obtain ⟨env3, x3a, x3b, x3c, x3d⟩ := rW (Cx.mk h ro []) env9 (AS.mk hp (stS s i v l2)) m hlen2 rfl f8 (wr_ok (by omega) (by omega)) 
    have f0 := (x3d 0 (by decide)).trans f0
    have f1 := (x3d 1 (by decide)).trans f1
    have f2 := (x3d 2 (by decide)).trans f2
    have f3 := (x3d 3 (by decide)).trans f3
    have f8 := x3c
    refine ⟨.normal, (env3, _), (execW_seq_of (execW_seq_of x1a (execW_cond_t ev1 (by rfl))) (execW_seq_of (execW_block_of (execW_seq_of x2a rb)) x3a)), .inl ⟨rfl, ⟨l2, m + 1, by omega, hl2, hp2, hs2, rfl, x3b, f0, f1, f2, f3, f8⟩, ?_⟩⟩
    have : jOf 8 (env3, AS.mk hp (stS s i v l2)) = m + 1 := by simp only [jOf, f8]; omega
    rw [this]; omega
  · skip
    obtain ⟨env1, x1a, x1b, x1c, x1d⟩ := rU (Cx.mk h ro []) env (AS.mk hp (stS s i v l)) m n hlen rfl f8 f2 q 
    have f0 := (x1d 0 (by decide)).trans f0
    have f1 := (x1d 1 (by decide)).trans f1
    have f2 := (x1d 2 (by decide)).trans f2
    have f3 := (x1d 3 (by decide)).trans f3
    have f8 := (x1d 8 (by decide)).trans f8
    have f14 := x1c
    have ev1 := ev_tmp f14
    exact ⟨.exit 0, (env1, _), (execW_seq_exit (execW_seq_of x1a (execW_cond_f ev1 (by rfl)))), .inr ⟨by simp, rfl, l, hp1, fun p q2 hp hq h1 h2 => hs p q2 hp hq h1 (by omega), rfl⟩⟩

noncomputable def bodyC : Code := (.seq (cr [.l]) (cr [.r]))
theorem body : Try.f40.body = some bodyC := by kernel_rfl
theorem ok (hp s : List AObj) (ro : Option Nat) (i v : Nat) (l : List RowD) (hro' : ∀ k, ro = some k → k ≤ s.length) (hg : s[i]? = some (.row (l.map encRow) 17 v false)) (hw : wok ro (.st i) = true) (hn : l.length ≤ 900) :
    ∃ l2 : List RowD, callW Try.prog how 40 [.row (.st i) v 0 l.length, .int .i64 0, .int .i64 (l.length : Int), .fn (.func 32) [] []] ⟨hp, s⟩ ro = some (.tup [], ⟨hp, s.set i (.row (l2.map encRow) 17 v false)⟩) ∧ l2.Perm l ∧ SortTo l2 l.length := by
  let cx : Cx := { h := s.length, ro := ro, esc := [] }
  have hcx : cx.esc = [] := rfl
  have hro : ∀ k, cx.ro = some k → k ≤ cx.h := hro'
  obtain ⟨env, henv⟩ : ∃ e, e = frameA Try.f40 [.row (.st i) v 0 l.length, .int .i64 0, .int .i64 (l.length : Int), .fn (.func 32) [] []] := ⟨_, rfl⟩
  have hlen : env.length = 53 := by rw [henv]; rfl
  have f0 : Env.get env 0 = .row (.st i) v 0 l.length := by rw [henv]; rfl
  have f1 : Env.get env 1 = .int .i64 0 := by rw [henv]; rfl
  have f2 : Env.get env 2 = .int .i64 (l.length : Int) := by rw [henv]; rfl
  have f3 : Env.get env 3 = .fn (.func 32) [] [] := by rw [henv]; rfl
  have ho : Outside s.length (AS.mk hp s) (AS.mk hp s) := Outside.refl (Nat.le_refl _)
  have hi : i < s.length := (List.getElem?_eq_some_iff.1 hg).1
  have hs0 : s = stS s i v l := by
    unfold stS
    apply List.ext_getElem?
    intro k
    by_cases e : i = k
    · subst e; rw [List.getElem?_set_self hi, hg]
    · rw [List.getElem?_set_ne e]
  obtain ⟨env1, x1a, x1b, x1c, x1d⟩ := rA cx env (AS.mk hp s)  hlen hcx f1 (by decide) 
  have f0 := (x1d 0 (by decide)).trans f0
  have f1 := (x1d 1 (by decide)).trans f1
  have f2 := (x1d 2 (by decide)).trans f2
  have f3 := (x1d 3 (by decide)).trans f3
  have f8 := x1c
  obtain ⟨e, ⟨env9, σ9⟩, r, he, hex, l2, hp2, hs2, hσ2⟩ := while_exit (outer_step s.length ro hp s i v l.length l hi hw hn) _ (env1, AS.mk hp s) (Nat.le_refl _) ⟨l, 1, Nat.le_refl _, rfl, List.Perm.refl _, fun p q hp hq h1 h2 => by omega, by rw [← hs0], x1b, f0, f1, f2, f3, f8⟩
  simp only at hσ2
  subst hσ2 hex
  have rb := block_out r
  rw [← outer_eq] at rb
  exact ⟨l2, call_of (fl := { tails := [2000006] }) (fn := Try.f40) (c := bodyC) (env := env) (e := (.normal, (env9, AS.mk hp (stS s i v l2)))) rfl Try.func40 body henv (by unfold bodyC; exact (execW_seq_of x1a rb)) ((fin_none (.inr rfl) rfl rfl).trans (by simp [stS, List.take_of_length_le])), hp2, hs2⟩
end F40
