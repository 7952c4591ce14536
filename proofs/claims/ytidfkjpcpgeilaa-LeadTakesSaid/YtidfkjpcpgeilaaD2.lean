/- What the code of the lead computes. -/

import Derived.Test.YtidfkjpcpgeilaaD1
open Go Go.Abs Go.Proofs Go.RowKit
set_option maxRecDepth 100000
set_option maxHeartbeats 4000000
set_option linter.unusedSimpArgs false
set_option linter.unusedVariables false
namespace Ld
theorem wpList_cons {P : Program} {ops : Array Oper} {Q : Exit → Act → World → Prop} {o : Oper} {rest : List Oper} {a : Act} {w : World} {ρ : Rho} {env : Env} (hE : ER ρ w env a.tmps) (hw : wantedA ops.toList env o = true) (h : o.wp P a w (wpList P ops Q rest) Q) : wpList P ops Q (o :: rest) a w := by
  unfold wpList
  rw [← wantedA_eq hE ops o, if_pos hw]
  exact .inl h
theorem put_defers {a : Act} (hd : a.defers = []) (d : Option Tmp) (u : Value) : (a.put d u).defers = [] := by cases d <;> simp [Act.put, hd]
/-- The state whose next slot is x. -/
def Sx (σ : AS) (h : Nat) (cs : List AV) (x : Int) : AS := σ.set (.hp h) (.cells (cs.set 9 (.int .i64 x)))
theorem wN {all : List Oper} {env : Env} {o : Oper} (h : o.guard = none) : wantedA all env o = true := by
  unfold wantedA
  rw [h]
theorem len_put {env : Env} {d : Option Nat} {v : AV} : (putE env d v).length = env.length := by cases d <;> simp [putE]
theorem get_put {env : Env} {d k : Nat} {v : AV} : Env.get (putE env (some d) v) k = if k = d ∧ d < env.length then v else Env.get env k := by
  simp only [putE, Env.get_set]
  by_cases h : k = d
  · subst h; simp
  · have h' : ¬ d = k := fun e => h e.symm
    simp [h, h']
theorem Sx_set {σ : AS} {h : Nat} {cs : List AV} {x : Int} {o : AObj} : (Sx σ h cs x).set (.hp h) o = σ.set (.hp h) o := by
  show AS.mk ((σ.hp.set h _).set h o) σ.st = AS.mk (σ.hp.set h o) σ.st
  rw [List.set_set]
theorem nextI_le (es : List (AV × AV)) : ∀ f : Int, f ≤ nextI f es ∧ ∀ e ∈ es, keyI e.1 + 1 ≤ nextI f es := by
  induction es with
  | nil => intro f; exact ⟨Int.le_refl _, fun e h => by cases h⟩
  | cons a l ih =>
    intro f
    obtain ⟨h1, h2⟩ := ih (max f (keyI a.1 + 1))
    have e : nextI f (a :: l) = nextI (max f (keyI a.1 + 1)) l := rfl
    rw [e]
    exact ⟨by omega, fun x hx => by
      rcases List.mem_cons.1 hx with rfl | hx
      · omega
      · exact h2 x hx⟩
theorem nextI_is (es : List (AV × AV)) : ∀ f : Int, nextI f es = f ∨ ∃ e ∈ es, nextI f es = keyI e.1 + 1 := by
  induction es with
  | nil => intro f; exact .inl rfl
  | cons a l ih =>
    intro f
    have e : nextI f (a :: l) = nextI (max f (keyI a.1 + 1)) l := rfl
    rw [e]
    rcases ih (max f (keyI a.1 + 1)) with h | ⟨x, hx, h⟩
    · rcases Int.le_total f (keyI a.1 + 1) with h1 | h1
      · exact .inr ⟨a, List.mem_cons_self .., by omega⟩
      · exact .inl (by omega)
    · exact .inr ⟨x, List.mem_cons_of_mem _ hx, h⟩
theorem nextI_eq {es : List (AV × AV)} {f x : Int} (h1 : f ≤ x) (h2 : ∀ e ∈ es, keyI e.1 + 1 ≤ x) (h3 : x = f ∨ ∃ e ∈ es, x = keyI e.1 + 1) : x = nextI f es := by
  obtain ⟨a, b⟩ := nextI_le es f
  have hle : nextI f es ≤ x := by
    rcases nextI_is es f with h | ⟨e, he, h⟩
    · omega
    · rw [h]; exact h2 e he
  have hge : x ≤ nextI f es := by
    rcases h3 with rfl | ⟨e, he, rfl⟩
    · exact a
    · exact b e he
  omega
/-- What an entry of the map is, abstractly. -/
theorem entry_at {ρ : Rho} {w : World} {es : List (AV × AV)} {arr : Array MapEntry} (h : EntriesR ρ w es arr.toList) (hk : ∀ e ∈ es, KeyOk e.1) {me : MapEntry} (hm : me ∈ arr.toList) : ∃ (j : Nat) (e : AV × AV) (n : Int), es[j]? = some e ∧ arr.toList[j]? = some me ∧ e ∈ es ∧ e.1 = .int .i64 n ∧ 0 ≤ n ∧ n ≤ 1000 ∧ VR ρ w e.1 me.key ∧ VR ρ w e.2 me.val := by
  obtain ⟨j, hj, rfl⟩ := List.getElem_of_mem hm
  have hj2 : j < es.length := by rw [h.1]; exact hj
  have he : es[j]? = some es[j] := List.getElem?_eq_getElem hj2
  obtain ⟨n, hn, h0, h1⟩ := hk _ (List.getElem_mem hj2)
  obtain ⟨_, _, v1, v2⟩ := h.2 j _ _ he (List.getElem?_eq_getElem hj)
  exact ⟨j, es[j], n, he, List.getElem?_eq_getElem hj, List.getElem_mem hj2, hn, h0, h1, v1, v2⟩
theorem rounds {σ : AS} {h i m : Nat} {c0 c1 c2 c3 c4 c5 c6 c7 c8 c9 : AV} {es : List (AV × AV)} (hgh : ∃ ob, σ.get (.hp h) = some ob) (hgi : σ.get (.st i) = some (.iter (.map (.hp m)))) (hgm : σ.get (.hp m) = some (.map es)) (hmh : m ≠ h) (hk : ∀ e ∈ es, KeyOk e.1) {from_ : Int}
    {arr : Array MapEntry} {since clock pb qb : Nat} (hold : ∀ x ∈ arr.toList, x.born < since) (hnd : (arr.toList.map (·.born)).Nodup) {Q : Exit → Act → World → Prop} {w0 : World} {ρ0 : Rho}
    (hQ : ∀ env a w ρ x, Ext ρ0 w0 ρ w → SR ρ (Sx σ h [c0, c1, c2, c3, c4, c5, c6, c7, c8, c9] x) w → ER ρ w env a.tmps → a.defers = [] → env.length = 59 → Env.get env 0 = .ptr (.hp h) 0 → x = nextI from_ es → Q (.exit 0) a w) :
    ∀ (n : Nat) (env : Env) (a : Act) (w : World) (ρ : Rho) (x : Int) (seen : Array Nat) (c : Nat), (leftOf arr seen).size < n → Ext ρ0 w0 ρ w → SR ρ (Sx σ h [c0, c1, c2, c3, c4, c5, c6, c7, c8, c9] x) w → ER ρ w env a.tmps → a.defers = [] → env.length = 59 → Env.get env 0 = .ptr (.hp h) 0 → Env.get env 18 = .ptr (.st i) 0 →
      (∃ p, ρ (.st i) = some p ∧ p.b = pb) → (∃ q, ρ (.hp m) = some q ∧ q.b = qb) → w.heap[pb]? = some (.mapIter (some qb) since seen c) → w.heap[qb]? = some (.map arr clock) → since ≤ c → since ≤ clock → EntriesR ρ w es arr.toList →
      (from_ ≤ x ∧ (∀ (j : Nat) (e : AV × AV) (me : MapEntry), es[j]? = some e → arr.toList[j]? = some me → seen.contains me.born = true → keyI e.1 + 1 ≤ x) ∧ (x = from_ ∨ ∃ e ∈ es, x = keyI e.1 + 1)) →
      Code.rounds Try.prog rnd Q n a w
  | 0, env, a, w, ρ, x, seen, c, hn, _, _, _, _, _, _, _, _, _, _, _, _, _, _, _ => absurd hn (Nat.not_lt_zero _)
  | n + 1, env, a, w, ρ, x, seen, c, hn, hx0, s, hE, hd, hlen, f0, f18, ⟨p, hp, hpb⟩, ⟨q, hq, hqb⟩, h1, h2, hc, hcl, hes, hI => by
    subst hpb; subst hqb
    have gi : (Sx σ h [c0, c1, c2, c3, c4, c5, c6, c7, c8, c9] x).get (.st i) = some (.iter (.map (.hp m))) := by
      unfold Sx; rw [AS.get_set, if_neg (by simp)]; exact hgi
    have gm : (Sx σ h [c0, c1, c2, c3, c4, c5, c6, c7, c8, c9] x).get (.hp m) = some (.map es) := by
      unfold Sx; rw [AS.get_set, if_neg (by simpa using hmh)]; exact hgm
    have gh : (Sx σ h [c0, c1, c2, c3, c4, c5, c6, c7, c8, c9] x).get (.hp h) = some (.cells [c0, c1, c2, c3, c4, c5, c6, c7, c8, .int .i64 x]) := by
      obtain ⟨ob, ho⟩ := hgh
      unfold Sx; rw [AS.get_set, if_pos rfl, ho]; rfl
    rw [rounds_succ]
    unfold rnd
    refine wp_seq ?_
    refine wp_region_list ?_
    rw [show o2.toArray.toList = [N0, N1] from o2_eq]
    refine wpList_cons hE (wN N0_g) ?_
    refine wp_next s hE N0_op (x := .tmp 18) (L := .st i) (M := .hp m) (by show some (Env.get env 18) = _; rw [f18]) gi hp hq h1 h2 hold hc ?_ ?_
    · intro hz
      rw [N0_dst]
      have hE1 : ER ρ w (putE env (some 19) (.tup [.bool false])) (a.put (some 19) (.tuple #[.bool false])).tmps := hE.put (.tup _ _ rfl fun i c v hc hv => by
        match i with
        | 0 => simp at hc hv; subst hc; subst hv; exact .bool _
        | i + 1 => simp at hc)
      have g19 : Env.get (putE env (some 19) (.tup [.bool false])) 19 = .tup (.bool false :: []) := by rw [get_put, if_pos ⟨rfl, by omega⟩]
      refine seqV_sound (rest := []) s [N1] _ _ _ hE1 (put_defers hd _ _) (v2 g19) fun a' hE' hd' => ?_
      have g20 : Env.get (putE (putE env (some 19) (.tup [.bool false])) (some 20) (.bool false)) 20 = .bool false := by rw [get_put, if_pos ⟨rfl, by rw [len_put]; omega⟩]
      have hv := ev_sound hE' (x := .tmp 20) (c := .bool false) (by show some (Env.get _ 20) = _; rw [g20])
      generalize hu : a'.eval (.tmp 20) = u at hv
      cases hv
      refine wp_seq (wp_cond_false hu (wp_exit ?_))
      refine hQ _ _ _ _ _ hx0 s hE' hd' (by rw [len_put, len_put]; exact hlen) (by rw [get_put, if_neg (by simp), get_put, if_neg (by simp)]; exact f0) ?_
      refine nextI_eq hI.1 (fun e he => ?_) hI.2.2
      obtain ⟨j, hj, rfl⟩ := List.getElem_of_mem he
      have hj2 : j < arr.toList.length := by rw [← hes.1]; exact hj
      refine hI.2.1 j _ _ (List.getElem?_eq_getElem hj) (List.getElem?_eq_getElem hj2) ?_
      cases hcn : seen.contains (arr.toList[j]).born with
      | true => rfl
      | false =>
        have : arr.toList[j] ∈ (leftOf arr seen).toList := by
          unfold leftOf
          exact Array.mem_toList_iff.2 (Array.mem_filter.2 ⟨Array.mem_toList_iff.1 (List.getElem_mem hj2), by rw [hcn]; rfl⟩)
        have hl0 : (leftOf arr seen).toList = [] := List.eq_nil_of_length_eq_zero (by rw [Array.length_toList]; exact hz)
        rw [hl0] at this
        cases this
    · intro me hme w1 ρ1 x1 s1 hp1 hq1 k1 k2
      rw [N0_dst]
      have hmem := mem_left hme
      have hes1 : EntriesR ρ1 w1 es arr.toList := ⟨hes.1, fun i e m he hm => by
        obtain ⟨i1, i2, v1, v2⟩ := hes.2 i e m he hm
        exact ⟨i1, i2, v1.mono x1, v2.mono x1⟩⟩
      obtain ⟨j, e, key, he, hj, hee, hkey, hk0, hk1, v1, v2'⟩ := entry_at hes1 hk hmem.1
      have hE1 : ER ρ1 w1 (putE env (some 19) (.tup [.bool true, e.1, e.2])) (a.put (some 19) (.tuple #[.bool true, me.key, me.val])).tmps := (hE.mono x1).put (.tup _ _ rfl fun i c v hc hv => by
        match i with
        | 0 => simp at hc hv; subst hc; subst hv; exact .bool _
        | 1 => simp at hc hv; subst hc; subst hv; exact v1
        | 2 => simp at hc hv; subst hc; subst hv; exact v2'
        | i + 3 => simp at hc)
      have g19 : Env.get (putE env (some 19) (.tup [.bool true, e.1, e.2])) 19 = .tup (.bool true :: [e.1, e.2]) := by rw [get_put, if_pos ⟨rfl, by omega⟩]
      refine seqV_sound (rest := []) s1 [N1] _ _ _ hE1 (put_defers hd _ _) (v2 g19) fun a1 hE2 hd2 => ?_
      generalize hen : putE (putE env (some 19) (.tup [.bool true, e.1, e.2])) (some 20) (.bool true) = env2 at hE2
      have l2 : env2.length = 59 := by rw [← hen, len_put, len_put]; exact hlen
      have g20 : Env.get env2 20 = .bool true := by rw [← hen, get_put, if_pos ⟨rfl, by rw [len_put]; omega⟩]
      have g18 : Env.get env2 18 = .ptr (.st i) 0 := by rw [← hen, get_put, if_neg (by simp), get_put, if_neg (by simp)]; exact f18
      have g0 : Env.get env2 0 = .ptr (.hp h) 0 := by rw [← hen, get_put, if_neg (by simp), get_put, if_neg (by simp)]; exact f0
      have hv := ev_sound hE2 (x := .tmp 20) (c := .bool true) (by show some (Env.get _ 20) = _; rw [g20])
      generalize hu : a1.eval (.tmp 20) = u at hv
      cases hv
      refine wp_seq (wp_cond_true hu (wp_skip ?_))
      refine wp_block ?_
      refine wp_seq ?_
      refine wp_region_list ?_
      rw [show o3.toArray.toList = [E0, E1, E2] from o3_eq]
      refine wpList_cons hE2 (wN E0_g) (wp_entry hE2 E0_op (L := .st i) (by show some (Env.get _ 18) = _; rw [g18]) hp1 k1 (by rw [k2]; exact h2) hmem.1 hnd ?_)
      rw [E0_dst]
      have hE3 : ER ρ1 w1 (putE env2 (some 21) (.tup [e.1, e.2])) (a1.put (some 21) (.tuple #[me.key, me.val])).tmps := hE2.put (.tup _ _ rfl fun i c v hc hv => by
        match i with
        | 0 => simp at hc hv; subst hc; subst hv; exact v1
        | 1 => simp at hc hv; subst hc; subst hv; exact v2'
        | i + 2 => simp at hc)
      have g21 : Env.get (putE env2 (some 21) (.tup [e.1, e.2])) 21 = .tup (e.1 :: [e.2]) := by rw [get_put, if_pos ⟨rfl, by omega⟩]
      refine seqV_sound (rest := []) s1 [E1, E2] _ _ _ hE3 (put_defers hd2 _ _) (v3 (by rw [len_put]; exact l2) g21) fun a2 hE4 hd4 => ?_
      generalize hen4 : putE (putE (putE env2 (some 21) (.tup [e.1, e.2])) (some 22) e.1) (some 2) e.1 = env4 at hE4
      have l4 : env4.length = 59 := by rw [← hen4, len_put, len_put, len_put]; exact l2
      have g2 : Env.get env4 2 = .int .i64 key := by rw [← hen4, get_put, if_pos ⟨rfl, by rw [len_put, len_put]; omega⟩]; exact hkey
      have g0' : Env.get env4 0 = .ptr (.hp h) 0 := by rw [← hen4, get_put, if_neg (by simp), get_put, if_neg (by simp), get_put, if_neg (by simp)]; exact g0
      have g18' : Env.get env4 18 = .ptr (.st i) 0 := by rw [← hen4, get_put, if_neg (by simp), get_put, if_neg (by simp), get_put, if_neg (by simp)]; exact g18
      obtain ⟨env5, q1, q2, ⟨q3, q4⟩, q5⟩ := v4 _ env4 h c0 c1 c2 c3 c4 c5 c6 c7 c8 key x l4 g0' g2 gh (wr_ok (by omega) (by omega))
      obtain ⟨ph, hph, hpl, hpr', vs, EE, hw', hl', hv'⟩ := s1.obj (.hp h) _ gh
      refine wp_region_list ?_
      rw [show o4.toArray.toList = o4.take 10 ++ [o4s] from o4_eq]
      refine seqV_sound (rest := [o4s]) s1 (o4.take 10) env4 env5 _ hE4 hd4 (by rw [show o4.toArray.toList = o4 from rfl]; exact q1) fun a5 hE5 hd5 => ?_
      refine wpList_cons hE5 (wN o4s_g) (wp_store s1 hE5 o4s_op (L := .hp h) (k := 9) (by show some (Env.get _ 32) = _; rw [q3]) (by show some (Env.get _ 30) = _; rw [q4]) s3 gh (show 9 < 10 by decide) hph fun w2 ρ2 x2 s2 hoth => ?_)
      rw [o4s_dst]
      rw [Sx_set] at s2
      have s2 : SR ρ2 (Sx σ h [c0, c1, c2, c3, c4, c5, c6, c7, c8, c9] (max x (key + 1))) w2 := s2
      have hne1 : p.b ≠ ph.b := fun e => by rw [e] at k1; rw [k1] at hw'; cases hw'
      have hne2 : q.b ≠ ph.b := fun e => by rw [← k2, e] at h2; rw [h2] at hw'; cases hw'
      obtain ⟨p2, hp2, _, _, _, hb2⟩ := x2.loc _ _ hp1
      obtain ⟨q2', hq2, _, _, _, hb3⟩ := x2.loc _ _ hq1
      have hprow : p.row = false := by
        obtain ⟨p9, hp9, _, hr9, _⟩ := s.obj (.st i) _ gi
        rw [hp] at hp9; cases hp9; exact hr9
      have hqrow : q.row = false := by
        obtain ⟨p9, hp9, _, hr9, _⟩ := s.obj (.hp m) _ gm
        rw [hq] at hp9; cases hp9; exact hr9
      have hlt := left_shrinks arr seen me hme
      have hin : keyI e.1 = key := by rw [hkey]; rfl
      refine rounds hgh hgi hgm hmh hk hold hnd hQ n env5 a5 w2 ρ2 (max x (key + 1)) (seen.push me.born) clock (by omega) ((hx0.trans x1).trans x2) s2 (hE5.mono x2) hd5 q2 ((q5 0 (by decide)).trans g0') ((q5 18 (by decide)).trans g18') ⟨p2, hp2, hb2 hprow⟩ ⟨q2', hq2, hb3 hqrow⟩ ((hoth _ hne1).trans k1) ((hoth _ hne2).trans (k2.trans h2)) hcl hcl ⟨hes1.1, fun i e m he hm => by
        obtain ⟨i1, i2, v1, v2⟩ := hes1.2 i e m he hm
        exact ⟨i1, i2, v1.mono x2, v2.mono x2⟩⟩ ⟨by omega, fun j' e' me' he' hme' hc' => ?_, ?_⟩
      · rw [contains_push] at hc'
        rcases Bool.or_eq_true _ _ ▸ hc' with h9 | h9
        · have := hI.2.1 j' e' me' he' hme' h9
          omega
        · have hb : me'.born = me.born := by simpa using h9
          have hj' : j' < arr.toList.length := (List.getElem?_eq_some_iff.1 hme').1
          have hjl : j < arr.toList.length := (List.getElem?_eq_some_iff.1 hj).1
          have e9 : (arr.toList.map (·.born))[j']? = (arr.toList.map (·.born))[j]? := by rw [List.getElem?_map, List.getElem?_map, hme', hj]; simp [hb]
          have : j' = j := (List.getElem?_inj (by simpa using hj') hnd).1 e9
          subst this
          rw [he] at he'
          cases he'
          omega
      · rcases Int.le_total x (key + 1) with h9 | h9
        · exact .inr ⟨e, hee, by omega⟩
        · rw [show max x (key + 1) = x by omega]; exact hI.2.2
end Ld
