/- The state of a lead on the heap. -/

import Derived.Test.YtidfkjpcpgeilaaG0
import Derived.Test.YtidfkjpcpgeilaaC1
import Derived.Test.YtidfkjpcpgeilaaD4
open Go Go.Abs Go.Proofs Ldr
set_option maxRecDepth 100000
set_option maxHeartbeats 4000000
set_option linter.unusedSimpArgs false
set_option linter.unusedVariables false
/-- A proposal of the open ones: its slot, where it lies, its value, who accepted it. -/
structure Pr where
  s : Int
  i : Nat
  v : ByteArray
  m : Int
def entP (e : Pr) : AV × AV := (.int .i64 e.s, .ptr (.hp e.i) 0)
def tripP (e : Pr) : Int × ByteArray × Int := (e.s, e.v, e.m)
def cellsL (me n : Int) (p : Lv) (B O : AV) : List AV := [.int .i64 me, .int .i64 n, .int .i64 p.st, .int .u64 p.br, .int .i64 p.bn, .int .i64 p.fr, .int .u8 p.pr, B, O, .int .i64 p.nx]
/-- The program's lead in the heap. -/
structure PLd (hp : List AObj) (a mb mo : Nat) (me n : Int) (p : Lv) (L : List Pr) : Prop where
  oA : hp[a]? = some (.cells (cellsL me n p (.map (.hp mb)) (.map (.hp mo))))
  oB : hp[mb]? = some (.map (p.best.map (ment kI encVt)))
  oO : hp[mo]? = some (.map (L.map entP))
  op : p.op = L.map tripP
  oP : ∀ e ∈ L, hp[e.i]? = some (.cells [.str e.v, .int .u8 e.m])
  nd : (mb :: mo :: L.map (·.i)).Nodup
  na : a ∉ mb :: mo :: L.map (·.i)
def StL (hp : List AObj) (a : Nat) (me n : Int) (p : Lv) (F : List Nat) : Prop :=
  (p = idleL ∧ F = [] ∧ hp[a]? = some (.cells (cellsL me n idleL .nilm .nilm))) ∨ (p.st ≠ 0 ∧ ∃ mb mo L, PLd hp a mb mo me n p L ∧ F = mb :: mo :: L.map (·.i))
theorem StL.at_ {hp : List AObj} {a : Nat} {me n : Int} {p : Lv} {F : List Nat} (h : StL hp a me n p F) : ∃ B O, hp[a]? = some (.cells (cellsL me n p B O)) := by
  rcases h with ⟨rfl, _, h⟩ | ⟨_, mb, mo, L, h, _⟩
  · exact ⟨_, _, h⟩
  · exact ⟨_, _, h.oA⟩
theorem PLd.keep {hp hp' : List AObj} {a mb mo : Nat} {me n : Int} {p : Lv} {L : List Pr} {G : List Nat} (h : PLd hp a mb mo me n p L) (k : Kp hp hp' G) (hd : ∀ i ∈ a :: mb :: mo :: L.map (·.i), i ∉ G) : PLd hp' a mb mo me n p L := {
  oA := k.get h.oA (hd _ (by simp))
  oB := k.get h.oB (hd _ (by simp))
  oO := k.get h.oO (hd _ (by simp))
  op := h.op
  oP := fun e he => k.get (h.oP e he) (hd _ (by simp only [List.mem_cons, List.mem_map]; exact .inr (.inr (.inr ⟨e, he, rfl⟩))))
  nd := h.nd
  na := h.na }
theorem StL.keep {hp hp' : List AObj} {a : Nat} {me n : Int} {p : Lv} {F G : List Nat} (h : StL hp a me n p F) (k : Kp hp hp' G) (hd : ∀ i ∈ a :: F, i ∉ G) : StL hp' a me n p F := by
  rcases h with ⟨h1, rfl, h2⟩ | ⟨h1, mb, mo, L, h2, rfl⟩
  · exact .inl ⟨h1, rfl, k.get h2 (hd _ (by simp))⟩
  · exact .inr ⟨h1, mb, mo, L, h2.keep k hd, rfl⟩
theorem StL.lt {hp : List AObj} {a : Nat} {me n : Int} {p : Lv} {F : List Nat} (h : StL hp a me n p F) : ∀ i ∈ a :: F, i < hp.length := by
  rcases h with ⟨h1, rfl, h2⟩ | ⟨h1, mb, mo, L, h2, rfl⟩
  · intro i hi
    rw [List.mem_singleton] at hi
    subst hi
    exact at_lt2 h2
  · intro i hi
    simp only [List.mem_cons, List.mem_map] at hi
    rcases hi with rfl | rfl | rfl | ⟨e, he, rfl⟩
    · exact at_lt2 h2.oA
    · exact at_lt2 h2.oB
    · exact at_lt2 h2.oO
    · exact at_lt2 (h2.oP e he)
theorem StL.na {hp : List AObj} {a : Nat} {me n : Int} {p : Lv} {F : List Nat} (h : StL hp a me n p F) : a ∉ F := by
  rcases h with ⟨h1, rfl, h2⟩ | ⟨h1, mb, mo, L, h2, rfl⟩
  · simp
  · exact h2.na
def encPm (x : Int × List Vt) : AV := .agg [.int .i64 x.1, slV 4 (x.2.map encVt)]
def encAk (x : Int × Int) : AV := .agg [.int .i64 x.1, .int .i64 x.2]
def encRw (x : Int × ByteArray) : AV := .agg [.int .i64 x.1, .str x.2]
def cellsR (me n : Int) (r : Rv) (X A O : AV) : List AV := [.int .i64 me, .int .i64 n, .int .i64 r.st, .int .u64 r.br, .int .i64 r.bn, .int .i64 r.fr, X, A, O, .int .i64 r.nx]
/-- The document's lead in the heap. -/
structure RLd (hp : List AObj) (b : Nat) (me n : Int) (r : Rv) (X A O : AV) (G1 G2 G3 : List Nat) : Prop where
  oB : hp[b]? = some (.cells (cellsR me n r X A O))
  hX : HRw 2 hp X (r.P.map encPm) G1
  hA : HRw 2 hp A (r.ack.map encAk) G2
  hO : HRw 2 hp O (r.op.map encRw) G3
  n1 : b ∉ G1
  n2 : b ∉ G2
  n3 : b ∉ G3
  d12 : ∀ i ∈ G1, i ∉ G2
  d13 : ∀ i ∈ G1, i ∉ G3
  d23 : ∀ i ∈ G2, i ∉ G3
def StR (hp : List AObj) (b : Nat) (me n : Int) (r : Rv) (G : List Nat) : Prop := ∃ X A O G1 G2 G3, RLd hp b me n r X A O G1 G2 G3 ∧ G = G1 ++ G2 ++ G3
theorem RLd.keep {hp hp' : List AObj} {b : Nat} {me n : Int} {r : Rv} {X A O : AV} {G1 G2 G3 G : List Nat} (h : RLd hp b me n r X A O G1 G2 G3) (k : Kp hp hp' G) (hd : ∀ i ∈ b :: (G1 ++ G2 ++ G3), i ∉ G) : RLd hp' b me n r X A O G1 G2 G3 := {
  oB := k.get h.oB (hd _ (by simp))
  hX := h.hX.keep k fun i hi => hd i (by simp [hi])
  hA := h.hA.keep k fun i hi => hd i (by simp [hi])
  hO := h.hO.keep k fun i hi => hd i (by simp [hi])
  n1 := h.n1
  n2 := h.n2
  n3 := h.n3
  d12 := h.d12
  d13 := h.d13
  d23 := h.d23 }
theorem StR.keep {hp hp' : List AObj} {b : Nat} {me n : Int} {r : Rv} {F G : List Nat} (h : StR hp b me n r F) (k : Kp hp hp' G) (hd : ∀ i ∈ b :: F, i ∉ G) : StR hp' b me n r F := by
  obtain ⟨X, A, O, G1, G2, G3, h, rfl⟩ := h
  exact ⟨X, A, O, G1, G2, G3, h.keep k hd, rfl⟩
theorem StR.lt {hp : List AObj} {b : Nat} {me n : Int} {r : Rv} {F : List Nat} (h : StR hp b me n r F) : ∀ i ∈ b :: F, i < hp.length := by
  obtain ⟨X, A, O, G1, G2, G3, h, rfl⟩ := h
  intro i hi
  simp only [List.mem_cons, List.mem_append] at hi
  rcases hi with rfl | (hi | hi) | hi
  · exact at_lt2 h.oB
  · exact h.hX.lt i hi
  · exact h.hA.lt i hi
  · exact h.hO.lt i hi
theorem StR.nb {hp : List AObj} {b : Nat} {me n : Int} {r : Rv} {F : List Nat} (h : StR hp b me n r F) : b ∉ F := by
  obtain ⟨X, A, O, G1, G2, G3, h, rfl⟩ := h
  simp only [List.mem_append]
  rintro ((h1 | h1) | h1)
  · exact h.n1 h1
  · exact h.n2 h1
  · exact h.n3 h1
/-- What a step may change. -/
def Stp (hp hp' : List AObj) (a : Nat) (F F' : List Nat) : Prop := Kp hp hp' (a :: F) ∧ ∀ i ∈ F', i ∈ F ∨ hp.length ≤ i
theorem Stp.refl (hp : List AObj) (a : Nat) (F : List Nat) : Stp hp hp a F F := ⟨Kp.refl _ _, fun i hi => .inl hi⟩
theorem Stp.off {hp hp' : List AObj} {a b : Nat} {F F' G : List Nat} (h : Stp hp hp' a F F') (hd : ∀ i ∈ b :: G, i ∉ a :: F) (hl : ∀ i ∈ b :: G, i < hp.length) (ha : ∀ i ∈ a :: F, i < hp.length) : ∀ i ∈ b :: G, i ∉ a :: F' := by
  intro i hi hj
  rcases List.mem_cons.1 hj with rfl | hj
  · exact hd i hi (by simp)
  · rcases h.2 i hj with h1 | h1
    · exact hd i hi (by simp [h1])
    · have := hl i hi; omega
def clampMe (m : Int) : Int := min (max m 0) 4
