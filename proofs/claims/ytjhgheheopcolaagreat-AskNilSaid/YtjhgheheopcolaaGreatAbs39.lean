/- Calls that write nothing that was there; the keys of a map, sorted. -/
import Derived.Test.YtjhgheheopcolaaGreatAbs38
import Derived.Lib.SlKeysI
import Derived.Sort.KeysCollected
set_option linter.unusedVariables false
set_option linter.unusedSimpArgs false
namespace Go.Abs
open Go.RowKit Go.MapKept Go.Maps

section
variable {ρ : Rho} {σ : AS} {w w' : World}

theorem SR.free_new (s : SR ρ σ w) {b : Nat} (hb : w.heap.size ≤ b) : Free ρ b :=
  ⟨fun L p hp hl e => by have := s.lt L p hp hl; omega, fun h => by have := s.resl b h; omega⟩

theorem Ext.below (h : Below w.heap.size w w') (s : SR ρ σ w) : Ext ρ w ρ w' :=
  ⟨fun _ p hp => ⟨p, hp, rfl, Nat.le_refl _, fun _ => ⟨rfl, rfl, rfl, rfl⟩, fun _ => rfl⟩, fun b hb hf => ⟨hf, h.block b hb⟩, ⟨rfl, fun b hb _ => h.block b hb⟩, h.size, h.os, h.tape, h.output⟩

theorem OR.below (h : Below w.heap.size w w') (s : SR ρ σ w) {L : Loc} {p : Place} (hp : ρ L = some p) {ob : AObj} (o : OR ρ w p ob) : OR ρ w' p ob := by
  have x := Ext.below h s
  cases ob with
  | cells cs =>
    obtain ⟨hl, hr, vs, E, e1, e2, e3⟩ := o
    exact ⟨hl, hr, vs, E, (h.block _ (s.lt L p hp hl)).trans e1, e2, fun i c v hc hv => (e3 i c v hc hv).mono x⟩
  | row es sz v fro =>
    obtain ⟨hr, hv, hz, h0, hl, hc, hk, hf, vs, E, fz, e1, e2, e3, e4⟩ := o
    have hb : p.b < w.heap.size := by
      cases fro with
      | true => exact (hf rfl).2
      | false => exact s.lt L p hp (by simpa using hl)
    exact ⟨hr, hv, hz, h0, hl, hc, hk, fun e => ⟨(hf e).1, Nat.lt_of_lt_of_le (hf e).2 h.size⟩, vs, E, fz, (h.block _ hb).trans e1, e2, e3, fun i e j c u a1 a2 a3 => (e4 i e j c u a1 a2 a3).mono x⟩
  | map es =>
    obtain ⟨hl, hr, arr, clock, e1, e2, e3, e4⟩ := o
    exact ⟨hl, hr, arr, clock, (h.block _ (s.lt L p hp hl)).trans e1, e2, e3, fun i e m a1 a2 => ⟨(e4 i e m a1 a2).1, (e4 i e m a1 a2).2.1, ((e4 i e m a1 a2).2.2.1).mono x, ((e4 i e m a1 a2).2.2.2).mono x⟩⟩
  | iter m =>
    obtain ⟨hl, hr, i1, mb, since, last, e1, e2⟩ := o
    exact ⟨hl, hr, i1, mb, since, last, (h.block _ (s.lt L p hp hl)).trans e1, e2.mono x⟩
  | dead => exact o

theorem SR.below (h : Below w.heap.size w w') (s : SR ρ σ w) : SR ρ σ w' := {
  objD L ob hg hd := by
    obtain ⟨p, hp, o⟩ := s.objD L ob hg hd
    exact ⟨p, hp, OR.below h s hp o⟩
  dom := s.dom
  inj := s.inj
  lt L p hp hl := Nat.lt_of_lt_of_le (s.lt L p hp hl) h.size
  hin := s.hin
  nres := s.nres
  resl b hb := Nat.lt_of_lt_of_le (s.resl b hb) h.size }
end

/-- Sorting by insertion. -/
def insB {α : Type} (le : α → α → Bool) (a : α) : List α → List α
  | [] => [a]
  | b :: l => if le a b = true then a :: b :: l else b :: insB le a l
def isortB {α : Type} (le : α → α → Bool) : List α → List α
  | [] => []
  | a :: l => insB le a (isortB le l)
section
variable {α : Type} {le : α → α → Bool}
theorem insB_perm (a : α) : ∀ l : List α, (insB le a l).Perm (a :: l)
  | [] => List.Perm.refl _
  | b :: l => by
    unfold insB
    split
    · exact List.Perm.refl _
    · exact ((insB_perm a l).cons b).trans (List.Perm.swap a b l)
theorem isortB_perm : ∀ l : List α, (isortB le l).Perm l
  | [] => List.Perm.refl _
  | a :: l => (insB_perm a _).trans ((isortB_perm l).cons a)
theorem insB_sorted (tr : ∀ a b c, le a b = true → le b c = true → le a c = true) (to : ∀ a b, (le a b || le b a) = true) (a : α) : ∀ l : List α, l.Pairwise (fun x y => le x y = true) → (insB le a l).Pairwise (fun x y => le x y = true)
  | [], _ => by simp [insB]
  | b :: l, h => by
    unfold insB
    split
    · rename_i hab
      refine List.pairwise_cons.2 ⟨fun x hx => ?_, h⟩
      rcases List.mem_cons.1 hx with rfl | hx
      · exact hab
      · exact tr _ _ _ hab ((List.pairwise_cons.1 h).1 x hx)
    · rename_i hab
      refine List.pairwise_cons.2 ⟨fun x hx => ?_, insB_sorted tr to a l (List.pairwise_cons.1 h).2⟩
      rcases List.mem_cons.1 ((insB_perm a l).mem_iff.1 hx) with rfl | hx
      · have := to x b
        simp only [Bool.or_eq_true] at this
        rcases this with h1 | h1
        · exact absurd h1 hab
        · exact h1
      · exact (List.pairwise_cons.1 h).1 x hx
theorem isortB_sorted (tr : ∀ a b c, le a b = true → le b c = true → le a c = true) (to : ∀ a b, (le a b || le b a) = true) : ∀ l : List α, (isortB le l).Pairwise (fun x y => le x y = true)
  | [] => List.Pairwise.nil
  | a :: l => insB_sorted tr to a _ (isortB_sorted tr to l)
end
theorem isortB_int {l l' : List Int} (h : l.Perm l') : l'.mergeSort leI = isortB leI l := by
  have tr : ∀ a b c : Int, leI a b = true → leI b c = true → leI a c = true := fun a b c h1 h2 => by simp only [leI, decide_eq_true_eq] at *; exact Int.le_trans h1 h2
  have to : ∀ a b : Int, (leI a b || leI b a) = true := fun a b => by simp only [leI, Bool.or_eq_true, decide_eq_true_eq]; exact Int.le_total a b
  refine List.Perm.eq_of_pairwise (le := fun a b => leI a b = true) (fun a b _ _ h1 h2 => ?_) (List.pairwise_mergeSort tr to l') (isortB_sorted tr to l) ((List.mergeSort_perm l' leI).trans (h.symm.trans (isortB_perm l).symm))
  simp only [leI, decide_eq_true_eq] at h1 h2
  exact Int.le_antisymm h1 h2
theorem isortB_str {l l' : List (List UInt8)} (h : l.Perm l') : l'.mergeSort leB = isortB leB l := by
  have tr : ∀ a b c : List UInt8, leB a b = true → leB b c = true → leB a c = true := fun a b c h1 h2 => by simp only [leB, decide_eq_true_eq] at *; exact List.le_trans h1 h2
  have to : ∀ a b : List UInt8, (leB a b || leB b a) = true := fun a b => by simp only [leB, Bool.or_eq_true, decide_eq_true_eq]; exact List.le_total a b
  refine List.Perm.eq_of_pairwise (le := fun a b => leB a b = true) (fun a b _ _ h1 h2 => ?_) (List.pairwise_mergeSort tr to l') (isortB_sorted tr to l) ((List.mergeSort_perm l' leB).trans (h.symm.trans (isortB_perm l).symm))
  simp only [leB, decide_eq_true_eq] at h1 h2
  exact List.le_antisymm h1 h2
end Go.Abs
