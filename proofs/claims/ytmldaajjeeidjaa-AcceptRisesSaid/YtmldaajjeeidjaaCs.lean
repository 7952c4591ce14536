/- Its two double loops. -/
import Derived.Test.YtmldaajjeeidjaaCr
open Go Go.Abs Go.Proofs
set_option maxRecDepth 100000
set_option maxHeartbeats 4000000
set_option linter.unusedSimpArgs false
set_option linter.unusedVariables false
namespace F5
def cx : Cx := { h := 0, ro := none, esc := [] }
/-- Nothing but new objects of the frame. -/
def Ext (σ0 σ : AS) : Prop := σ.hp = σ0.hp ∧ ∃ l, σ.st = σ0.st ++ l
theorem Ext.refl (σ : AS) : Ext σ σ := ⟨rfl, [], by simp⟩
theorem Ext.push {σ0 σ : AS} {ob : AObj} (h : Ext σ0 σ) : Ext σ0 (σ.push false ob) := by
  obtain ⟨h1, l, h2⟩ := h
  exact ⟨by simpa [AS.push] using h1, l ++ [ob], by simp [AS.push, h2]⟩
theorem Ext.trans {σ0 σ1 σ2 : AS} (h : Ext σ0 σ1) (h' : Ext σ1 σ2) : Ext σ0 σ2 := by
  obtain ⟨h1, l, h2⟩ := h
  obtain ⟨h3, m, h4⟩ := h'
  exact ⟨h3.trans h1, l ++ m, by rw [h4, h2, List.append_assoc]⟩
theorem Ext.get {σ0 σ : AS} {L : Abs.Loc} {o : AObj} (h : Ext σ0 σ) (hg : σ0.get L = some o) : σ.get L = some o := by
  obtain ⟨h1, l, h2⟩ := h
  cases L with
  | hp i => simp only [AS.get, h1]; exact hg
  | st i =>
    simp only [AS.get, h2] at hg ⊢
    rw [List.getElem?_append_left (List.getElem?_eq_some_iff.1 hg).1]
    exact hg
theorem idxV (σ : AS) (L : List Vt) (k : Nat) (hk : k < L.length) : indexAddrA Try.prog σ 45 (slV 4 (L.map encV)) (.int .i64 (k : Int)) = some (.rptr (encV L[k]).cells 0) :=
  idx_slV Try.prog σ 45 41 Try.underlying45 (L.map encV) k (encV L[k]) s41 (by rw [List.getElem?_map, List.getElem?_eq_getElem hk]; rfl)
theorem any_succ {L : List Vt} {p : Vt → Bool} {k : Nat} (hk : k < L.length) : (L.take (k + 1)).any p = ((L.take k).any p || p L[k]) := by
  rw [List.take_succ_eq_append_getElem hk, List.any_append]
  simp
/-- Is it the same slot, of no less a ballot? -/
def okK (v x : Vt) : Bool := decide (x.s = v.s) && !lessB x.r x.n v.r v.n
def okH (x v : Vt) : Bool := decide (v = x)

/-! The loops 'k'. -/
noncomputable def kT : Oper := (opsOf (cr [.r, .r, .l, .r, .i, .i, .r, .r, .l, .i, .r, .r, .r, .r, .r, .r, .l, .r, .i, .i, .r, .r, .l, .i, .r, .r, .l, .r, .i, .i, .l])).headD default
noncomputable def kI : List Oper := opsOf (cr [.r, .r, .l, .r, .i, .i, .r, .r, .l, .i, .r, .r, .r, .r, .r, .r, .l, .r, .i, .i, .r, .r, .l, .i, .r, .r, .l, .r, .i, .i, .r, .r, .r])
theorem k_in_eq : cr [.r, .r, .l, .r, .i, .i, .r, .r, .l, .i, .r, .r, .r, .r, .r, .r, .l, .r, .i, .i, .r, .r, .l, .i, .r, .r, .l, .r] = .block 4 (.loop (.seq (.region 18 #[kT] false) (.seq (.cond (.tmp 66) .skip (.exit 4)) (.seq (.block 5 ((cr [.r, .r, .l, .r, .i, .i, .r, .r, .l, .i, .r, .r, .r, .r, .r, .r, .l, .r, .i, .i, .r, .r, .l, .i, .r, .r, .l, .r, .i, .i, .r, .r, .l, .i, .l]).seq (cr [.r, .r, .l, .r, .i, .i, .r, .r, .l, .i, .r, .r, .r, .r, .r, .r, .l, .r, .i, .i, .r, .r, .l, .i, .r, .r, .l, .r, .i, .i, .r, .r, .l, .i, .r]))) (.region 21 #[kI.headD default, (kI.drop 1).headD default] false))))) := by kernel_rfl
noncomputable def kTO : Oper := (opsOf (cr [.r, .r, .l, .r, .i, .i, .r, .r, .l, .i, .r, .r, .r, .r, .r, .r, .l, .r, .i, .i, .l])).headD default
noncomputable def kIO : List Oper := opsOf (cr [.r, .r, .l, .r, .i, .i, .r, .r, .l, .i, .r, .r, .r, .r, .r, .r, .l, .r, .i, .i, .r, .r, .r])
theorem k_out_eq : cr [.r, .r, .l, .r, .i, .i, .r, .r, .l, .i, .r, .r, .r, .r, .r, .r, .l, .r] = .block 2 (.loop (.seq (.region 14 #[kTO] false) (.seq (.cond (.tmp 60) .skip (.exit 2)) (.seq (.block 3 ((cr [.r, .r, .l, .r, .i, .i, .r, .r, .l, .i, .r, .r, .r, .r, .r, .r, .l, .r, .i, .i, .r, .r, .l, .i, .l]).seq ((cr [.r, .r, .l, .r, .i, .i, .r, .r, .l, .i, .r, .r, .r, .r, .r, .r, .l, .r, .i, .i, .r, .r, .l, .i, .r, .l]).seq (((cr [.r, .r, .l, .r, .i, .i, .r, .r, .l, .i, .r, .r, .r, .r, .r, .r, .l, .r, .i, .i, .r, .r, .l, .i, .r, .r, .l, .l]).seq (cr [.r, .r, .l, .r, .i, .i, .r, .r, .l, .i, .r, .r, .r, .r, .r, .r, .l, .r, .i, .i, .r, .r, .l, .i, .r, .r, .l, .r])).seq (cr [.r, .r, .l, .r, .i, .i, .r, .r, .l, .i, .r, .r, .r, .r, .r, .r, .l, .r, .i, .i, .r, .r, .l, .i, .r, .r, .r]))))) (.region 24 #[kIO.headD default, (kIO.drop 1).headD default] false))))) := by kernel_rfl
theorem k_eq : cr [.r, .r, .l, .r, .i, .i, .r, .r, .l, .i, .r, .r, .r, .r, .r, .r, .l] = (cr [.r, .r, .l, .r, .i, .i, .r, .r, .l, .i, .r, .r, .r, .r, .r, .r, .l, .l]).seq (cr [.r, .r, .l, .r, .i, .i, .r, .r, .l, .i, .r, .r, .r, .r, .r, .r, .l, .r]) := by kernel_rfl
def kJI (env0 : Env) (σ0 : AS) (i : Nat) (v : Vt) (L : List Vt) (k : Nat) (env : Env) (σ : AS) : Prop :=
  (∀ j ∈ [3, 4, 5, 6, 7, 8, 20, 21, 22], Env.get env j = Env.get env0 j) ∧ Env.get env 57 = Env.get env0 57 ∧ Env.get env 58 = Env.get env0 58 ∧ Env.get env 59 = Env.get env0 59 ∧ Env.get env 10 = .ptr (.st i) 0 ∧ Env.get env 63 = slV 4 (L.map encV) ∧ Env.get env 11 = .bool ((L.take k).any (okK v)) ∧ σ.get (.st i) = some (.cells (encV v).cells) ∧ Ext σ0 σ
theorem kJI_stable {env0 : Env} {σ0 : AS} {i : Nat} {v : Vt} {L : List Vt} : ∀ k env env' σ, env.length = 123 → env'.length = 123 → (∀ j, j ≠ 66 → j ≠ 87 → j ≠ 65 → Env.get env' j = Env.get env j) → kJI env0 σ0 i v L k env σ → kJI env0 σ0 i v L k env' σ := by
  rintro k env env' σ _ _ hf ⟨j1, j2, j3, j4, j5, j6, j7, j8⟩
  refine ⟨fun j hj => (hf j ?_ ?_ ?_).trans (j1 j hj), (hf _ (by decide) (by decide) (by decide)).trans j2, (hf _ (by decide) (by decide) (by decide)).trans j3, (hf _ (by decide) (by decide) (by decide)).trans j4, (hf _ (by decide) (by decide) (by decide)).trans j5, (hf _ (by decide) (by decide) (by decide)).trans j6, (hf _ (by decide) (by decide) (by decide)).trans j7, j8⟩ <;> (simp only [List.mem_cons, List.not_mem_nil, or_false] at hj; omega)
theorem k_in_step (env0 : Env) (σ0 : AS) (i : Nat) (v : Vt) (L : List Vt) :
    ∀ k env σ, k < L.length → env.length = 123 → Env.get env 65 = .int .i64 (k : Int) → Env.get env 64 = .int .i64 (L.length : Int) → kJI env0 σ0 i v L k env σ → ∃ e env' σ', execW Try.prog cx [2000008] (callW Try.prog how) (.block 5 ((cr [.r, .r, .l, .r, .i, .i, .r, .r, .l, .i, .r, .r, .r, .r, .r, .r, .l, .r, .i, .i, .r, .r, .l, .i, .r, .r, .l, .r, .i, .i, .r, .r, .l, .i, .l]).seq (cr [.r, .r, .l, .r, .i, .i, .r, .r, .l, .i, .r, .r, .r, .r, .r, .r, .l, .r, .i, .i, .r, .r, .l, .i, .r, .r, .l, .r, .i, .i, .r, .r, .l, .i, .r]))) (env, σ) = some (e, (env', σ')) ∧
      ((e = .normal ∧ env'.length = 123 ∧ Env.get env' 65 = .int .i64 (k : Int) ∧ Env.get env' 64 = .int .i64 (L.length : Int) ∧ kJI env0 σ0 i v L (k + 1) env' σ') ∨ (e ≠ .normal ∧ False)) := by
  rintro k env σ hk hlen fi fl ⟨j1, j2, j3, j4, j5, j6, j7, j8, j9⟩
  obtain ⟨env1, a1, a2, a3, a4⟩ := kG cx env σ (L.map encV) k L[k] hlen rfl j6 fi (idxV σ L k hk) rfl (Nat.zero_le _)
  have gx : (σ.push false (.cells (encV L[k]).cells)).get (.st σ.st.length) = some (.cells (encV L[k]).cells) := AS.get_push_at rfl
  have gv := get_push' (ob' := .cells (encV L[k]).cells) j8
  have ho := j9.push (ob := .cells (encV L[k]).cells)
  generalize hj : σ.st.length = j at a3 gx
  generalize σ.push false (.cells (encV L[k]).cells) = σ1 at a1 gx gv ho
  have key : ∃ env2, execW Try.prog cx [2000008] (callW Try.prog how) (cr [.r, .r, .l, .r, .i, .i, .r, .r, .l, .i, .r, .r, .r, .r, .r, .r, .l, .r, .i, .i, .r, .r, .l, .i, .r, .r, .l, .r, .i, .i, .r, .r, .l, .i, .r]) (env1, σ1) = some (.normal, (env2, σ1)) ∧ env2.length = 123 ∧ Env.get env2 11 = .bool ((L.take k).any (okK v) || okK v L[k]) ∧ ∀ q, q ∉ [11, 69, 70, 71, 72, 73, 74, 75, 76, 77, 78, 79, 80, 81, 82, 83, 84, 85, 86] → Env.get env2 q = Env.get env1 q := by
    have f5 := (a4 10 (by decide)).trans j5
    have ff := (a4 11 (by decide)).trans j7
    cases hb : (L.take k).any (okK v) with
    | true =>
      rw [hb] at ff
      obtain ⟨env2, b1, b2, b3, b4⟩ := kHa cx env1 σ1 i j v L[k] a2 rfl f5 a3 ff gv gx
      exact ⟨env2, b1, b2, b3, b4⟩
    | false =>
      rw [hb] at ff
      by_cases q : L[k].s = v.s
      · have h16x := f16_ok σ1.hp σ1.st (some σ1.st.length) L[k].r L[k].n (fun k hk => by cases hk; exact Nat.le_refl _)
        have h16v := f16_ok σ1.hp σ1.st (some σ1.st.length) v.r v.n (fun k hk => by cases hk; exact Nat.le_refl _)
        have h14 := f14_ok σ1.hp σ1.st (some σ1.st.length) L[k].r L[k].n v.r v.n (fun k hk => by cases hk; exact Nat.le_refl _)
        obtain ⟨env2, b1, b2, b3, b4⟩ := kHc cx env1 σ1 i j v L[k] _ a2 rfl f5 a3 ff gv gx q h16x h16v h14
        refine ⟨env2, b1, b2, ?_, b4⟩
        rw [b3]
        simp [okK, q]
      · obtain ⟨env2, b1, b2, b3, b4⟩ := kHb cx env1 σ1 i j v L[k] a2 rfl f5 a3 ff gv gx q
        refine ⟨env2, b1, b2, ?_, b4⟩
        rw [b3]
        simp [okK, q]
  obtain ⟨env2, b1, b2, b3, b4⟩ := key
  have fr : ∀ q, q ∉ [13, 67, 68] → q ∉ [11, 69, 70, 71, 72, 73, 74, 75, 76, 77, 78, 79, 80, 81, 82, 83, 84, 85, 86] → Env.get env2 q = Env.get env q := fun q h1 h2 => (b4 q h2).trans (a4 q h1)
  refine ⟨.normal, env2, σ1, execW_block_of (execW_seq_of a1 b1), .inl ⟨rfl, b2, (fr _ (by decide) (by decide)).trans fi, (fr _ (by decide) (by decide)).trans fl, fun q hq => ?_, (fr _ (by decide) (by decide)).trans j2, (fr _ (by decide) (by decide)).trans j3, (fr _ (by decide) (by decide)).trans j4, (fr _ (by decide) (by decide)).trans j5, (fr _ (by decide) (by decide)).trans j6, ?_, gv, ho⟩⟩
  · refine (fr q ?_ ?_).trans (j1 q hq) <;> (revert hq; simp only [List.mem_cons, List.not_mem_nil, or_false]; omega)
  · rw [any_succ hk]; exact b3
def kJO (env0 : Env) (σ0 : AS) (L : List Vt) (k : Nat) (env : Env) (σ : AS) : Prop :=
  (∀ j ∈ [3, 4, 5, 6, 7, 8, 20, 21, 22], Env.get env j = Env.get env0 j) ∧ Env.get env 57 = slV 4 (L.map encV) ∧ Ext σ0 σ
theorem kJO_stable {env0 : Env} {σ0 : AS} {L : List Vt} : ∀ k env env' σ, env.length = 123 → env'.length = 123 → (∀ j, j ≠ 60 → j ≠ 90 → j ≠ 59 → Env.get env' j = Env.get env j) → kJO env0 σ0 L k env σ → kJO env0 σ0 L k env' σ := by
  rintro k env env' σ _ _ hf ⟨j1, j2, j3⟩
  refine ⟨fun j hj => (hf j ?_ ?_ ?_).trans (j1 j hj), (hf _ (by decide) (by decide) (by decide)).trans j2, j3⟩ <;> (simp only [List.mem_cons, List.not_mem_nil, or_false] at hj; omega)
theorem k_out_step (env0 : Env) (σ0 : AS) (L M : List Vt) (hM : M.length ≤ 9223372036854775807) (hsi : Env.get env0 8 = slV 4 (M.map encV)) (hk2 : ∀ v ∈ L, M.any (okK v) = true) :
    ∀ k env σ, k < L.length → env.length = 123 → Env.get env 59 = .int .i64 (k : Int) → Env.get env 58 = .int .i64 (L.length : Int) → kJO env0 σ0 L k env σ → ∃ e env' σ', execW Try.prog cx [2000008] (callW Try.prog how) (.block 3 ((cr [.r, .r, .l, .r, .i, .i, .r, .r, .l, .i, .r, .r, .r, .r, .r, .r, .l, .r, .i, .i, .r, .r, .l, .i, .l]).seq ((cr [.r, .r, .l, .r, .i, .i, .r, .r, .l, .i, .r, .r, .r, .r, .r, .r, .l, .r, .i, .i, .r, .r, .l, .i, .r, .l]).seq (((cr [.r, .r, .l, .r, .i, .i, .r, .r, .l, .i, .r, .r, .r, .r, .r, .r, .l, .r, .i, .i, .r, .r, .l, .i, .r, .r, .l, .l]).seq (cr [.r, .r, .l, .r, .i, .i, .r, .r, .l, .i, .r, .r, .r, .r, .r, .r, .l, .r, .i, .i, .r, .r, .l, .i, .r, .r, .l, .r])).seq (cr [.r, .r, .l, .r, .i, .i, .r, .r, .l, .i, .r, .r, .r, .r, .r, .r, .l, .r, .i, .i, .r, .r, .l, .i, .r, .r, .r]))))) (env, σ) = some (e, (env', σ')) ∧
      ((e = .normal ∧ env'.length = 123 ∧ Env.get env' 59 = .int .i64 (k : Int) ∧ Env.get env' 58 = .int .i64 (L.length : Int) ∧ kJO env0 σ0 L (k + 1) env' σ') ∨ (e ≠ .normal ∧ False)) := by
  rintro k env σ hk hlen fi fl ⟨j1, j2, j3⟩
  obtain ⟨env1, a1, a2, a3, a4⟩ := kE cx env σ (L.map encV) k L[k] hlen rfl j2 fi (idxV σ L k hk) rfl (Nat.zero_le _)
  have gv : (σ.push false (.cells (encV L[k]).cells)).get (.st σ.st.length) = some (.cells (encV L[k]).cells) := AS.get_push_at rfl
  have ho := j3.push (ob := .cells (encV L[k]).cells)
  generalize hj : σ.st.length = i at a3 gv
  generalize σ.push false (.cells (encV L[k]).cells) = σ1 at a1 gv ho
  obtain ⟨env2, b1, b2, b3, b4⟩ := kF cx env1 σ1 a2 rfl
  have fr2 : ∀ q, q ∉ [10, 61, 62] → q ∉ [11] → Env.get env2 q = Env.get env q := fun q h1 h2 => (b4 q h2).trans (a4 q h1)
  obtain ⟨env3, c1, c2, c3, c4⟩ := kM cx env2 σ1 (M.map encV) b2 rfl ((fr2 8 (by decide) (by decide)).trans ((j1 8 (by decide)).trans hsi))
  rw [List.length_map] at c3
  have fr3 : ∀ q, q ∉ [10, 61, 62] → q ∉ [11] → q ∉ [63, 64, 65] → Env.get env3 q = Env.get env q := fun q h1 h2 h3 => (c4 q h3).trans (fr2 q h1 h2)
  have hJ0 : kJI env3 σ1 i L[k] M 0 env3 σ1 := ⟨fun _ _ => rfl, rfl, rfl, rfl, (c4 _ (by decide)).trans ((b4 _ (by decide)).trans a3), c3.1, (c4 _ (by decide)).trans b3, gv, Ext.refl _⟩
  have hloop : ∃ e env' σ', execW Try.prog cx [2000008] (callW Try.prog how) (cr [.r, .r, .l, .r, .i, .i, .r, .r, .l, .i, .r, .r, .r, .r, .r, .r, .l, .r, .i, .i, .r, .r, .l, .i, .r, .r, .l, .r]) (env3, σ1) = some (e, (env', σ')) ∧ ((e = .normal ∧ ((env'.length = 123 ∧ kJI env3 σ1 i L[k] M M.length env' σ') ∨ False)) ∨ (e ≠ .normal ∧ e ≠ .exit 4 ∧ False)) := by
    rw [k_in_eq]
    exact range_std (Ex := fun _ _ _ => False) (N := 123) (tc := 66) (ti := 65) (tl := 64) (tx := 87) (ty1 := 3) (ty2 := 3) (ty3 := 3) (ty4 := 3) ⟨by kernel_rfl, by kernel_rfl, by kernel_rfl⟩ ⟨by kernel_rfl, by kernel_rfl, by kernel_rfl⟩ ⟨by kernel_rfl, by kernel_rfl, by kernel_rfl⟩ (by decide) hM kJI_stable (k_in_step env3 σ1 i L[k] M) c2 c3.2.2 c3.2.1 hJ0
  obtain ⟨e, env4, σ4, d1, d2⟩ := hloop
  rcases d2 with ⟨rfl, ⟨d2, j1', j2', j3', j4', j5', j6', j7', j8', j9'⟩ | d2⟩ | ⟨_, _, d2⟩
  · rw [List.take_length] at j7'
    have kk : ∀ q ∈ [3, 4, 5, 6, 7, 8, 20, 21, 22], Env.get env4 q = Env.get env q := fun q hq => (j1' q hq).trans (fr3 q (by revert hq; simp only [List.mem_cons, List.not_mem_nil, or_false]; omega) (by revert hq; simp only [List.mem_cons, List.not_mem_nil, or_false]; omega) (by revert hq; simp only [List.mem_cons, List.not_mem_nil, or_false]; omega))
    rw [hk2 L[k] (List.getElem_mem hk)] at j7'
    obtain ⟨env5, e1, e2, _, e4⟩ := kZ cx env4 σ4 d2 rfl j7'
    have key : ∃ env5, execW Try.prog cx [2000008] (callW Try.prog how) (cr [.r, .r, .l, .r, .i, .i, .r, .r, .l, .i, .r, .r, .r, .r, .r, .r, .l, .r, .i, .i, .r, .r, .l, .i, .r, .r, .r]) (env4, σ4) = some (.normal, (env5, σ4)) ∧ env5.length = 123 ∧ ∀ q, q ∉ [88, 89] → Env.get env5 q = Env.get env4 q := ⟨env5, e1, e2, e4⟩
    obtain ⟨env5, e1, e2, e4⟩ := key
    refine ⟨.normal, env5, σ4, execW_block_of (execW_seq_of a1 (execW_seq_of b1 (execW_seq_of (execW_seq_of c1 d1) e1))), .inl ⟨rfl, e2, (e4 _ (by decide)).trans (j4'.trans ((fr3 _ (by decide) (by decide) (by decide)).trans fi)), (e4 _ (by decide)).trans (j3'.trans ((fr3 _ (by decide) (by decide) (by decide)).trans fl)), fun q hq => ?_, (e4 _ (by decide)).trans (j2'.trans ((fr3 _ (by decide) (by decide) (by decide)).trans j2)), ho.trans j9'⟩⟩
    refine (e4 q ?_).trans ((kk q hq).trans (j1 q hq))
    revert hq
    simp only [List.mem_cons, List.not_mem_nil, or_false]
    omega
  · exact d2.elim
  · exact d2.elim
theorem k_ok (env0 : Env) (σ0 : AS) (L M : List Vt) (hL : L.length ≤ 9223372036854775807) (hM : M.length ≤ 9223372036854775807) (hlen : env0.length = 123) (hso : Env.get env0 7 = slV 4 (L.map encV)) (hsi : Env.get env0 8 = slV 4 (M.map encV)) (hk2 : ∀ v ∈ L, M.any (okK v) = true) :
    ∃ env' σ', execW Try.prog cx [2000008] (callW Try.prog how) (cr [.r, .r, .l, .r, .i, .i, .r, .r, .l, .i, .r, .r, .r, .r, .r, .r, .l]) (env0, σ0) = some (.normal, (env', σ')) ∧ env'.length = 123 ∧ (∀ j ∈ [3, 4, 5, 6, 7, 8, 20, 21, 22], Env.get env' j = Env.get env0 j) ∧ Ext σ0 σ' := by
  rw [k_eq]
  obtain ⟨env1, a1, a2, a3, a4⟩ := kL cx env0 σ0 (L.map encV) hlen rfl hso
  rw [List.length_map] at a3
  have kk : ∀ j ∈ [3, 4, 5, 6, 7, 8, 20, 21, 22], Env.get env1 j = Env.get env0 j := fun q hq => a4 q (by revert hq; simp only [List.mem_cons, List.not_mem_nil, or_false]; omega)
  have hJ0 : kJO env1 σ0 L 0 env1 σ0 := ⟨fun _ _ => rfl, a3.1, Ext.refl _⟩
  have hloop : ∃ e env' σ', execW Try.prog cx [2000008] (callW Try.prog how) (cr [.r, .r, .l, .r, .i, .i, .r, .r, .l, .i, .r, .r, .r, .r, .r, .r, .l, .r]) (env1, σ0) = some (e, (env', σ')) ∧ ((e = .normal ∧ ((env'.length = 123 ∧ kJO env1 σ0 L L.length env' σ') ∨ False)) ∨ (e ≠ .normal ∧ e ≠ .exit 2 ∧ False)) := by
    rw [k_out_eq]
    exact range_std (Ex := fun _ _ _ => False) (N := 123) (tc := 60) (ti := 59) (tl := 58) (tx := 90) (ty1 := 3) (ty2 := 3) (ty3 := 3) (ty4 := 3) ⟨by kernel_rfl, by kernel_rfl, by kernel_rfl⟩ ⟨by kernel_rfl, by kernel_rfl, by kernel_rfl⟩ ⟨by kernel_rfl, by kernel_rfl, by kernel_rfl⟩ (by decide) hL kJO_stable (k_out_step env1 σ0 L M hM ((kk 8 (by decide)).trans hsi) hk2) a2 a3.2.2 a3.2.1 hJ0
  obtain ⟨e, env4, σ4, d1, d2⟩ := hloop
  rcases d2 with ⟨rfl, ⟨d2, j1, j2, j3⟩ | d2⟩ | ⟨_, _, d2⟩
  · exact ⟨env4, σ4, execW_seq_of a1 d1, d2, fun j hj => (j1 j hj).trans (kk j hj), j3⟩
  · exact d2.elim
  · exact d2.elim

/-! The loops 'w'. -/
noncomputable def wT : Oper := (opsOf (cr [.r, .r, .l, .r, .i, .i, .r, .r, .l, .i, .r, .r, .r, .r, .r, .r, .r, .r, .i, .i, .r, .r, .l, .i, .r, .r, .l, .r, .i, .i, .l])).headD default
noncomputable def wI : List Oper := opsOf (cr [.r, .r, .l, .r, .i, .i, .r, .r, .l, .i, .r, .r, .r, .r, .r, .r, .r, .r, .i, .i, .r, .r, .l, .i, .r, .r, .l, .r, .i, .i, .r, .r, .r])
theorem w_in_eq : cr [.r, .r, .l, .r, .i, .i, .r, .r, .l, .i, .r, .r, .r, .r, .r, .r, .r, .r, .i, .i, .r, .r, .l, .i, .r, .r, .l, .r] = .block 8 (.loop (.seq (.region 30 #[wT] false) (.seq (.cond (.tmp 100) .skip (.exit 8)) (.seq (.block 9 ((cr [.r, .r, .l, .r, .i, .i, .r, .r, .l, .i, .r, .r, .r, .r, .r, .r, .r, .r, .i, .i, .r, .r, .l, .i, .r, .r, .l, .r, .i, .i, .r, .r, .l, .i, .l]).seq (cr [.r, .r, .l, .r, .i, .i, .r, .r, .l, .i, .r, .r, .r, .r, .r, .r, .r, .r, .i, .i, .r, .r, .l, .i, .r, .r, .l, .r, .i, .i, .r, .r, .l, .i, .r]))) (.region 33 #[wI.headD default, (wI.drop 1).headD default] false))))) := by kernel_rfl
noncomputable def wTO : Oper := (opsOf (cr [.r, .r, .l, .r, .i, .i, .r, .r, .l, .i, .r, .r, .r, .r, .r, .r, .r, .r, .i, .i, .l])).headD default
noncomputable def wIO : List Oper := opsOf (cr [.r, .r, .l, .r, .i, .i, .r, .r, .l, .i, .r, .r, .r, .r, .r, .r, .r, .r, .i, .i, .r, .r, .r])
theorem w_out_eq : cr [.r, .r, .l, .r, .i, .i, .r, .r, .l, .i, .r, .r, .r, .r, .r, .r, .r, .r] = .block 6 (.loop (.seq (.region 26 #[wTO] false) (.seq (.cond (.tmp 94) .skip (.exit 6)) (.seq (.block 7 ((cr [.r, .r, .l, .r, .i, .i, .r, .r, .l, .i, .r, .r, .r, .r, .r, .r, .r, .r, .i, .i, .r, .r, .l, .i, .l]).seq ((cr [.r, .r, .l, .r, .i, .i, .r, .r, .l, .i, .r, .r, .r, .r, .r, .r, .r, .r, .i, .i, .r, .r, .l, .i, .r, .l]).seq (((cr [.r, .r, .l, .r, .i, .i, .r, .r, .l, .i, .r, .r, .r, .r, .r, .r, .r, .r, .i, .i, .r, .r, .l, .i, .r, .r, .l, .l]).seq (cr [.r, .r, .l, .r, .i, .i, .r, .r, .l, .i, .r, .r, .r, .r, .r, .r, .r, .r, .i, .i, .r, .r, .l, .i, .r, .r, .l, .r])).seq (cr [.r, .r, .l, .r, .i, .i, .r, .r, .l, .i, .r, .r, .r, .r, .r, .r, .r, .r, .i, .i, .r, .r, .l, .i, .r, .r, .r]))))) (.region 36 #[wIO.headD default, (wIO.drop 1).headD default] false))))) := by kernel_rfl
theorem w_eq : cr [.r, .r, .l, .r, .i, .i, .r, .r, .l, .i, .r, .r, .r, .r, .r, .r, .r] = (cr [.r, .r, .l, .r, .i, .i, .r, .r, .l, .i, .r, .r, .r, .r, .r, .r, .r, .l]).seq (cr [.r, .r, .l, .r, .i, .i, .r, .r, .l, .i, .r, .r, .r, .r, .r, .r, .r, .r]) := by kernel_rfl
def wJI (env0 : Env) (σ0 : AS) (i : Nat) (v : Vt) (L : List Vt) (k : Nat) (env : Env) (σ : AS) : Prop :=
  (∀ j ∈ [3, 4, 5, 6, 7, 8, 20, 21, 22], Env.get env j = Env.get env0 j) ∧ Env.get env 91 = Env.get env0 91 ∧ Env.get env 92 = Env.get env0 92 ∧ Env.get env 93 = Env.get env0 93 ∧ Env.get env 15 = .ptr (.st i) 0 ∧ Env.get env 97 = slV 4 (L.map encV) ∧ Env.get env 16 = .bool ((L.take k).any (okH v)) ∧ σ.get (.st i) = some (.cells (encV v).cells) ∧ Ext σ0 σ
theorem wJI_stable {env0 : Env} {σ0 : AS} {i : Nat} {v : Vt} {L : List Vt} : ∀ k env env' σ, env.length = 123 → env'.length = 123 → (∀ j, j ≠ 100 → j ≠ 109 → j ≠ 99 → Env.get env' j = Env.get env j) → wJI env0 σ0 i v L k env σ → wJI env0 σ0 i v L k env' σ := by
  rintro k env env' σ _ _ hf ⟨j1, j2, j3, j4, j5, j6, j7, j8⟩
  refine ⟨fun j hj => (hf j ?_ ?_ ?_).trans (j1 j hj), (hf _ (by decide) (by decide) (by decide)).trans j2, (hf _ (by decide) (by decide) (by decide)).trans j3, (hf _ (by decide) (by decide) (by decide)).trans j4, (hf _ (by decide) (by decide) (by decide)).trans j5, (hf _ (by decide) (by decide) (by decide)).trans j6, (hf _ (by decide) (by decide) (by decide)).trans j7, j8⟩ <;> (simp only [List.mem_cons, List.not_mem_nil, or_false] at hj; omega)
theorem w_in_step (env0 : Env) (σ0 : AS) (i : Nat) (v : Vt) (L : List Vt) :
    ∀ k env σ, k < L.length → env.length = 123 → Env.get env 99 = .int .i64 (k : Int) → Env.get env 98 = .int .i64 (L.length : Int) → wJI env0 σ0 i v L k env σ → ∃ e env' σ', execW Try.prog cx [2000008] (callW Try.prog how) (.block 9 ((cr [.r, .r, .l, .r, .i, .i, .r, .r, .l, .i, .r, .r, .r, .r, .r, .r, .r, .r, .i, .i, .r, .r, .l, .i, .r, .r, .l, .r, .i, .i, .r, .r, .l, .i, .l]).seq (cr [.r, .r, .l, .r, .i, .i, .r, .r, .l, .i, .r, .r, .r, .r, .r, .r, .r, .r, .i, .i, .r, .r, .l, .i, .r, .r, .l, .r, .i, .i, .r, .r, .l, .i, .r]))) (env, σ) = some (e, (env', σ')) ∧
      ((e = .normal ∧ env'.length = 123 ∧ Env.get env' 99 = .int .i64 (k : Int) ∧ Env.get env' 98 = .int .i64 (L.length : Int) ∧ wJI env0 σ0 i v L (k + 1) env' σ') ∨ (e ≠ .normal ∧ False)) := by
  rintro k env σ hk hlen fi fl ⟨j1, j2, j3, j4, j5, j6, j7, j8, j9⟩
  obtain ⟨env1, a1, a2, a3, a4⟩ := wG cx env σ (L.map encV) k L[k] hlen rfl j6 fi (idxV σ L k hk) rfl (Nat.zero_le _)
  have gx : (σ.push false (.cells (encV L[k]).cells)).get (.st σ.st.length) = some (.cells (encV L[k]).cells) := AS.get_push_at rfl
  have gv := get_push' (ob' := .cells (encV L[k]).cells) j8
  have ho := j9.push (ob := .cells (encV L[k]).cells)
  generalize hj : σ.st.length = j at a3 gx
  generalize σ.push false (.cells (encV L[k]).cells) = σ1 at a1 gx gv ho
  have key : ∃ env2, execW Try.prog cx [2000008] (callW Try.prog how) (cr [.r, .r, .l, .r, .i, .i, .r, .r, .l, .i, .r, .r, .r, .r, .r, .r, .r, .r, .i, .i, .r, .r, .l, .i, .r, .r, .l, .r, .i, .i, .r, .r, .l, .i, .r]) (env1, σ1) = some (.normal, (env2, σ1)) ∧ env2.length = 123 ∧ Env.get env2 16 = .bool ((L.take k).any (okH v) || okH v L[k]) ∧ ∀ q, q ∉ [16, 103, 104, 105, 106, 107, 108] → Env.get env2 q = Env.get env1 q := by
    have f5 := (a4 15 (by decide)).trans j5
    have ff := (a4 16 (by decide)).trans j7
    cases hb : (L.take k).any (okH v) with
    | true =>
      rw [hb] at ff
      obtain ⟨env2, b1, b2, b3, b4⟩ := wHa cx env1 σ1 i j v L[k] a2 rfl f5 a3 ff gv gx
      exact ⟨env2, b1, b2, b3, b4⟩
    | false =>
      rw [hb] at ff
      obtain ⟨env2, b1, b2, b3, b4⟩ := wHb cx env1 σ1 i j v L[k] a2 rfl f5 a3 ff gv gx
      refine ⟨env2, b1, b2, ?_, b4⟩
      rw [b3]
      simp [okH]
  obtain ⟨env2, b1, b2, b3, b4⟩ := key
  have fr : ∀ q, q ∉ [18, 101, 102] → q ∉ [16, 103, 104, 105, 106, 107, 108] → Env.get env2 q = Env.get env q := fun q h1 h2 => (b4 q h2).trans (a4 q h1)
  refine ⟨.normal, env2, σ1, execW_block_of (execW_seq_of a1 b1), .inl ⟨rfl, b2, (fr _ (by decide) (by decide)).trans fi, (fr _ (by decide) (by decide)).trans fl, fun q hq => ?_, (fr _ (by decide) (by decide)).trans j2, (fr _ (by decide) (by decide)).trans j3, (fr _ (by decide) (by decide)).trans j4, (fr _ (by decide) (by decide)).trans j5, (fr _ (by decide) (by decide)).trans j6, ?_, gv, ho⟩⟩
  · refine (fr q ?_ ?_).trans (j1 q hq) <;> (revert hq; simp only [List.mem_cons, List.not_mem_nil, or_false]; omega)
  · rw [any_succ hk]; exact b3
def wJO (env0 : Env) (σ0 : AS) (L : List Vt) (k : Nat) (env : Env) (σ : AS) : Prop :=
  (∀ j ∈ [3, 4, 5, 6, 7, 8, 20, 21, 22], Env.get env j = Env.get env0 j) ∧ Env.get env 91 = slV 4 (L.map encV) ∧ Ext σ0 σ
theorem wJO_stable {env0 : Env} {σ0 : AS} {L : List Vt} : ∀ k env env' σ, env.length = 123 → env'.length = 123 → (∀ j, j ≠ 94 → j ≠ 120 → j ≠ 93 → Env.get env' j = Env.get env j) → wJO env0 σ0 L k env σ → wJO env0 σ0 L k env' σ := by
  rintro k env env' σ _ _ hf ⟨j1, j2, j3⟩
  refine ⟨fun j hj => (hf j ?_ ?_ ?_).trans (j1 j hj), (hf _ (by decide) (by decide) (by decide)).trans j2, j3⟩ <;> (simp only [List.mem_cons, List.not_mem_nil, or_false] at hj; omega)
theorem w_out_step (env0 : Env) (σ0 : AS) (L M : List Vt) (hM : M.length ≤ 9223372036854775807) (hsi : Env.get env0 7 = slV 4 (M.map encV)) (b : Nat) (pr pn : Int) (h6 : Env.get env0 6 = .ptr (.st b) 0) (g6 : σ0.get (.st b) = some (.cells [.int .u64 pr, .int .i64 pn])) (hh2 : ∀ x ∈ L, M.any (okH x) = true ∨ lessB x.r x.n pr pn = false) :
    ∀ k env σ, k < L.length → env.length = 123 → Env.get env 93 = .int .i64 (k : Int) → Env.get env 92 = .int .i64 (L.length : Int) → wJO env0 σ0 L k env σ → ∃ e env' σ', execW Try.prog cx [2000008] (callW Try.prog how) (.block 7 ((cr [.r, .r, .l, .r, .i, .i, .r, .r, .l, .i, .r, .r, .r, .r, .r, .r, .r, .r, .i, .i, .r, .r, .l, .i, .l]).seq ((cr [.r, .r, .l, .r, .i, .i, .r, .r, .l, .i, .r, .r, .r, .r, .r, .r, .r, .r, .i, .i, .r, .r, .l, .i, .r, .l]).seq (((cr [.r, .r, .l, .r, .i, .i, .r, .r, .l, .i, .r, .r, .r, .r, .r, .r, .r, .r, .i, .i, .r, .r, .l, .i, .r, .r, .l, .l]).seq (cr [.r, .r, .l, .r, .i, .i, .r, .r, .l, .i, .r, .r, .r, .r, .r, .r, .r, .r, .i, .i, .r, .r, .l, .i, .r, .r, .l, .r])).seq (cr [.r, .r, .l, .r, .i, .i, .r, .r, .l, .i, .r, .r, .r, .r, .r, .r, .r, .r, .i, .i, .r, .r, .l, .i, .r, .r, .r]))))) (env, σ) = some (e, (env', σ')) ∧
      ((e = .normal ∧ env'.length = 123 ∧ Env.get env' 93 = .int .i64 (k : Int) ∧ Env.get env' 92 = .int .i64 (L.length : Int) ∧ wJO env0 σ0 L (k + 1) env' σ') ∨ (e ≠ .normal ∧ False)) := by
  rintro k env σ hk hlen fi fl ⟨j1, j2, j3⟩
  obtain ⟨env1, a1, a2, a3, a4⟩ := wE cx env σ (L.map encV) k L[k] hlen rfl j2 fi (idxV σ L k hk) rfl (Nat.zero_le _)
  have gv : (σ.push false (.cells (encV L[k]).cells)).get (.st σ.st.length) = some (.cells (encV L[k]).cells) := AS.get_push_at rfl
  have ho := j3.push (ob := .cells (encV L[k]).cells)
  generalize hj : σ.st.length = i at a3 gv
  generalize σ.push false (.cells (encV L[k]).cells) = σ1 at a1 gv ho
  obtain ⟨env2, b1, b2, b3, b4⟩ := wF cx env1 σ1 a2 rfl
  have fr2 : ∀ q, q ∉ [15, 95, 96] → q ∉ [16] → Env.get env2 q = Env.get env q := fun q h1 h2 => (b4 q h2).trans (a4 q h1)
  obtain ⟨env3, c1, c2, c3, c4⟩ := wM cx env2 σ1 (M.map encV) b2 rfl ((fr2 7 (by decide) (by decide)).trans ((j1 7 (by decide)).trans hsi))
  rw [List.length_map] at c3
  have fr3 : ∀ q, q ∉ [15, 95, 96] → q ∉ [16] → q ∉ [97, 98, 99] → Env.get env3 q = Env.get env q := fun q h1 h2 h3 => (c4 q h3).trans (fr2 q h1 h2)
  have hJ0 : wJI env3 σ1 i L[k] M 0 env3 σ1 := ⟨fun _ _ => rfl, rfl, rfl, rfl, (c4 _ (by decide)).trans ((b4 _ (by decide)).trans a3), c3.1, (c4 _ (by decide)).trans b3, gv, Ext.refl _⟩
  have hloop : ∃ e env' σ', execW Try.prog cx [2000008] (callW Try.prog how) (cr [.r, .r, .l, .r, .i, .i, .r, .r, .l, .i, .r, .r, .r, .r, .r, .r, .r, .r, .i, .i, .r, .r, .l, .i, .r, .r, .l, .r]) (env3, σ1) = some (e, (env', σ')) ∧ ((e = .normal ∧ ((env'.length = 123 ∧ wJI env3 σ1 i L[k] M M.length env' σ') ∨ False)) ∨ (e ≠ .normal ∧ e ≠ .exit 8 ∧ False)) := by
    rw [w_in_eq]
    exact range_std (Ex := fun _ _ _ => False) (N := 123) (tc := 100) (ti := 99) (tl := 98) (tx := 109) (ty1 := 3) (ty2 := 3) (ty3 := 3) (ty4 := 3) ⟨by kernel_rfl, by kernel_rfl, by kernel_rfl⟩ ⟨by kernel_rfl, by kernel_rfl, by kernel_rfl⟩ ⟨by kernel_rfl, by kernel_rfl, by kernel_rfl⟩ (by decide) hM wJI_stable (w_in_step env3 σ1 i L[k] M) c2 c3.2.2 c3.2.1 hJ0
  obtain ⟨e, env4, σ4, d1, d2⟩ := hloop
  rcases d2 with ⟨rfl, ⟨d2, j1', j2', j3', j4', j5', j6', j7', j8', j9'⟩ | d2⟩ | ⟨_, _, d2⟩
  · rw [List.take_length] at j7'
    have kk : ∀ q ∈ [3, 4, 5, 6, 7, 8, 20, 21, 22], Env.get env4 q = Env.get env q := fun q hq => (j1' q hq).trans (fr3 q (by revert hq; simp only [List.mem_cons, List.not_mem_nil, or_false]; omega) (by revert hq; simp only [List.mem_cons, List.not_mem_nil, or_false]; omega) (by revert hq; simp only [List.mem_cons, List.not_mem_nil, or_false]; omega))
    have f6 : Env.get env4 6 = .ptr (.st b) 0 := (kk 6 (by decide)).trans ((j1 6 (by decide)).trans h6)
    have g6' := (ho.trans j9').get g6
    have f15 := j5'
    have key : ∃ env5, execW Try.prog cx [2000008] (callW Try.prog how) (cr [.r, .r, .l, .r, .i, .i, .r, .r, .l, .i, .r, .r, .r, .r, .r, .r, .r, .r, .i, .i, .r, .r, .l, .i, .r, .r, .r]) (env4, σ4) = some (.normal, (env5, σ4)) ∧ env5.length = 123 ∧ ∀ q, q ∉ [110, 111, 112, 113, 114, 115, 116, 117, 118, 119] → Env.get env5 q = Env.get env4 q := by
      cases hb : M.any (okH L[k]) with
      | true =>
        rw [hb] at j7'
        obtain ⟨env5, e1, e2, _, e4⟩ := wZa cx env4 σ4 i b L[k] pr pn d2 rfl f6 f15 j7' j8' g6'
        exact ⟨env5, e1, e2, e4⟩
      | false =>
        rw [hb] at j7'
        have h16x := f16_ok σ4.hp σ4.st (some σ4.st.length) L[k].r L[k].n (fun k hk => by cases hk; exact Nat.le_refl _)
        have h16v := f16_ok σ4.hp σ4.st (some σ4.st.length) pr pn (fun k hk => by cases hk; exact Nat.le_refl _)
        have h14 := f14_ok σ4.hp σ4.st (some σ4.st.length) L[k].r L[k].n pr pn (fun k hk => by cases hk; exact Nat.le_refl _)
        rw [(hh2 L[k] (List.getElem_mem hk)).resolve_left (by rw [hb]; simp)] at h14
        obtain ⟨env5, e1, e2, _, e4⟩ := wZb cx env4 σ4 i b L[k] pr pn d2 rfl f6 f15 j7' j8' g6' h16x h16v h14
        exact ⟨env5, e1, e2, e4⟩
    obtain ⟨env5, e1, e2, e4⟩ := key
    refine ⟨.normal, env5, σ4, execW_block_of (execW_seq_of a1 (execW_seq_of b1 (execW_seq_of (execW_seq_of c1 d1) e1))), .inl ⟨rfl, e2, (e4 _ (by decide)).trans (j4'.trans ((fr3 _ (by decide) (by decide) (by decide)).trans fi)), (e4 _ (by decide)).trans (j3'.trans ((fr3 _ (by decide) (by decide) (by decide)).trans fl)), fun q hq => ?_, (e4 _ (by decide)).trans (j2'.trans ((fr3 _ (by decide) (by decide) (by decide)).trans j2)), ho.trans j9'⟩⟩
    refine (e4 q ?_).trans ((kk q hq).trans (j1 q hq))
    revert hq
    simp only [List.mem_cons, List.not_mem_nil, or_false]
    omega
  · exact d2.elim
  · exact d2.elim
theorem w_ok (env0 : Env) (σ0 : AS) (L M : List Vt) (hL : L.length ≤ 9223372036854775807) (hM : M.length ≤ 9223372036854775807) (hlen : env0.length = 123) (hso : Env.get env0 8 = slV 4 (L.map encV)) (hsi : Env.get env0 7 = slV 4 (M.map encV)) (b : Nat) (pr pn : Int) (h6 : Env.get env0 6 = .ptr (.st b) 0) (g6 : σ0.get (.st b) = some (.cells [.int .u64 pr, .int .i64 pn])) (hh2 : ∀ x ∈ L, M.any (okH x) = true ∨ lessB x.r x.n pr pn = false) :
    ∃ env' σ', execW Try.prog cx [2000008] (callW Try.prog how) (cr [.r, .r, .l, .r, .i, .i, .r, .r, .l, .i, .r, .r, .r, .r, .r, .r, .r]) (env0, σ0) = some (.normal, (env', σ')) ∧ env'.length = 123 ∧ (∀ j ∈ [3, 4, 5, 6, 7, 8, 20, 21, 22], Env.get env' j = Env.get env0 j) ∧ Ext σ0 σ' := by
  rw [w_eq]
  obtain ⟨env1, a1, a2, a3, a4⟩ := wL cx env0 σ0 (L.map encV) hlen rfl hso
  rw [List.length_map] at a3
  have kk : ∀ j ∈ [3, 4, 5, 6, 7, 8, 20, 21, 22], Env.get env1 j = Env.get env0 j := fun q hq => a4 q (by revert hq; simp only [List.mem_cons, List.not_mem_nil, or_false]; omega)
  have hJ0 : wJO env1 σ0 L 0 env1 σ0 := ⟨fun _ _ => rfl, a3.1, Ext.refl _⟩
  have hloop : ∃ e env' σ', execW Try.prog cx [2000008] (callW Try.prog how) (cr [.r, .r, .l, .r, .i, .i, .r, .r, .l, .i, .r, .r, .r, .r, .r, .r, .r, .r]) (env1, σ0) = some (e, (env', σ')) ∧ ((e = .normal ∧ ((env'.length = 123 ∧ wJO env1 σ0 L L.length env' σ') ∨ False)) ∨ (e ≠ .normal ∧ e ≠ .exit 6 ∧ False)) := by
    rw [w_out_eq]
    exact range_std (Ex := fun _ _ _ => False) (N := 123) (tc := 94) (ti := 93) (tl := 92) (tx := 120) (ty1 := 3) (ty2 := 3) (ty3 := 3) (ty4 := 3) ⟨by kernel_rfl, by kernel_rfl, by kernel_rfl⟩ ⟨by kernel_rfl, by kernel_rfl, by kernel_rfl⟩ ⟨by kernel_rfl, by kernel_rfl, by kernel_rfl⟩ (by decide) hL wJO_stable (w_out_step env1 σ0 L M hM ((kk 7 (by decide)).trans hsi) b pr pn ((kk 6 (by decide)).trans h6) g6 hh2) a2 a3.2.2 a3.2.1 hJ0
  obtain ⟨e, env4, σ4, d1, d2⟩ := hloop
  rcases d2 with ⟨rfl, ⟨d2, j1, j2, j3⟩ | d2⟩ | ⟨_, _, d2⟩
  · exact ⟨env4, σ4, execW_seq_of a1 d1, d2, fun j hj => (j1 j hj).trans (kk j hj), j3⟩
  · exact d2.elim
  · exact d2.elim
end F5
