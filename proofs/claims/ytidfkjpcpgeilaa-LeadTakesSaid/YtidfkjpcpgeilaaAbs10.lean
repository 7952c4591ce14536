/- Part 10 of the abstract interpreter: its operations and what they say of a world, for any program and any world. -/
import Derived.Test.YtidfkjpcpgeilaaAbs9
import Derived.Lib.SlKeysI
import Derived.Sort.KeysCollected
set_option linter.unusedVariables false
set_option linter.unusedSimpArgs false
section
namespace Go.Abs
section
variable {hp s own : List AObj} {i n : Nat} {ob : AObj}
@[simp] theorem get_own0 : AS.get ⟨hp, s ++ own⟩ (.st s.length) = own[0]? := by simp [AS.get, List.getElem?_append_right]
@[simp] theorem get_own : AS.get ⟨hp, s ++ own⟩ (.st (s.length + i)) = own[i]? := by simp [AS.get, List.getElem?_append_right]
@[simp] theorem get_hp : AS.get ⟨hp, s⟩ (.hp i) = hp[i]? := rfl
@[simp] theorem set_own0 : AS.set ⟨hp, s ++ own⟩ (.st s.length) ob = ⟨hp, s ++ own.set 0 ob⟩ := by simp [AS.set]
@[simp] theorem set_own : AS.set ⟨hp, s ++ own⟩ (.st (s.length + i)) ob = ⟨hp, s ++ own.set i ob⟩ := by simp [AS.set]
@[simp] theorem set_hp : AS.set ⟨hp, s⟩ (.hp i) ob = ⟨hp.set i ob, s⟩ := rfl
@[simp] theorem push_st : AS.push ⟨hp, s⟩ false ob = ⟨hp, s ++ [ob]⟩ := by simp [AS.push]
@[simp] theorem push_hp : AS.push ⟨hp, s⟩ true ob = ⟨hp ++ [ob], s⟩ := by simp [AS.push]
@[simp] theorem next_st : AS.next ⟨hp, s⟩ false = .st s.length := by simp [AS.next]
@[simp] theorem next_hp : AS.next ⟨hp, s⟩ true = .hp hp.length := by simp [AS.next]
@[simp] theorem cut_own : AS.cut ⟨hp, s ++ own⟩ s.length = ⟨hp, s⟩ := by simp [AS.cut]
@[simp] theorem wok_hp {ro : Option Nat} : wok ro (.hp i) = ro.isNone := rfl
@[simp] theorem wok_none {L : Loc} : wok none L = true := by cases L <;> rfl
theorem wok_le {ro : Option Nat} (h : ∀ k, ro = some k → k ≤ n) : wok ro (.st n) = true := by
  cases ro with
  | none => rfl
  | some k => simpa [wok] using h k rfl
theorem wok_le' {ro : Option Nat} (h : ∀ k, ro = some k → k ≤ n) : wok ro (.st (n + i)) = true := by
  cases ro with
  | none => rfl
  | some k => have := h k rfl; simp only [wok, decide_eq_true_eq]; omega
@[simp] theorem cells_agg {cs} : (AV.agg cs).cells = cs := rfl
@[simp] theorem cells_int {k n} : (AV.int k n).cells = [AV.int k n] := rfl
@[simp] theorem cells_str {x} : (AV.str x).cells = [AV.str x] := rfl
@[simp] theorem cells_bool {x} : (AV.bool x).cells = [AV.bool x] := rfl
@[simp] theorem cells_nilp : (AV.nilp).cells = [AV.nilp] := rfl
@[simp] theorem cells_nils : (AV.nils).cells = [AV.nils] := rfl
@[simp] theorem cells_nilm : (AV.nilm).cells = [AV.nilm] := rfl
@[simp] theorem cells_nilf : (AV.nilf).cells = [AV.nilf] := rfl
@[simp] theorem cells_nili : (AV.nili).cells = [AV.nili] := rfl
@[simp] theorem cells_ptr {L o} : (AV.ptr L o).cells = [AV.ptr L o] := rfl
@[simp] theorem cells_rptr {L o} : (AV.rptr L o).cells = [AV.rptr L o] := rfl
@[simp] theorem cells_eptr {L v i o} : (AV.eptr L v i o).cells = [AV.eptr L v i o] := rfl
@[simp] theorem cells_row {L v i o} : (AV.row L v i o).cells = [AV.row L v i o] := rfl
@[simp] theorem cells_sl {L v i} : (AV.sl L v i).cells = [AV.sl L v i] := rfl
@[simp] theorem cells_map {L} : (AV.map L).cells = [AV.map L] := rfl
@[simp] theorem cells_fn {f x y} : (AV.fn f x y).cells = [AV.fn f x y] := rfl
@[simp] theorem cells_iface {t x} : (AV.iface t x).cells = [AV.iface t x] := rfl
@[simp] theorem one_agg {cs} : (AV.agg cs).one = false := rfl
@[simp] theorem one_int {k n} : (AV.int k n).one = true := rfl
@[simp] theorem one_str {x} : (AV.str x).one = true := rfl
@[simp] theorem one_bool {x} : (AV.bool x).one = true := rfl
@[simp] theorem one_nilp : (AV.nilp).one = true := rfl
@[simp] theorem one_nils : (AV.nils).one = true := rfl
@[simp] theorem one_nilm : (AV.nilm).one = true := rfl
@[simp] theorem one_nilf : (AV.nilf).one = true := rfl
@[simp] theorem one_nili : (AV.nili).one = true := rfl
@[simp] theorem one_ptr {L o} : (AV.ptr L o).one = true := rfl
@[simp] theorem one_rptr {L o} : (AV.rptr L o).one = true := rfl
@[simp] theorem one_eptr {L v i o} : (AV.eptr L v i o).one = true := rfl
@[simp] theorem one_row {L v i o} : (AV.row L v i o).one = true := rfl
@[simp] theorem one_sl {L v i} : (AV.sl L v i).one = true := rfl
@[simp] theorem one_map {L} : (AV.map L).one = true := rfl
@[simp] theorem one_fn {f x y} : (AV.fn f x y).one = true := rfl
@[simp] theorem one_iface {t x} : (AV.iface t x).one = true := rfl
end
structure Plain (v : AV) : Prop where
  one : v.one = true
  inb : ∀ h, v.inb h = true
  row : isRow v = false
theorem Plain.cells {v : AV} (h : Plain v) : v.cells = [v] := one_cells h.one
theorem Plain.back {v : AV} (hv : Plain v) (h : Nat) (σ : AS) : v.back h σ = some v := by
  have h1 := hv.one
  have h2 := hv.row
  cases v <;> first | rfl | (cases h1; done) | (cases h2; done)
end Go.Abs
end
section
namespace Go.Abs
theorem quietA_append {P : Program} {cx : Cx} {call : Caller} {σ : AS} {all : List Oper} {b : List Oper} : ∀ {a : List Oper} {env env' : Env} {ns ns' nh nh' : List AObj}, quietA P cx call σ all a env ns nh = some (env', ns', nh') → quietA P cx call σ all (a ++ b) env ns nh = quietA P cx call σ all b env' ns' nh'
  | [], env, env', ns, ns', nh, nh', h => by
    simp only [quietA, Option.some.injEq, Prod.mk.injEq] at h
    obtain ⟨rfl, rfl, rfl⟩ := h
    rfl
  | o :: os, env, env', ns, ns', nh, nh', h => by
    simp only [quietA, List.cons_append] at h ⊢
    split at h
    · rename_i v hq
      exact quietA_append h
    · rename_i v ob hq
      split at h
      · rename_i hx
        rw [if_pos hx]
        exact quietA_append h
      · rename_i hx
        rw [if_neg hx]
        exact quietA_append h
    · cases h
theorem seqA_append {P : Program} {cx : Cx} {call : Caller} {all : List Oper} {b : List Oper} : ∀ {a : List Oper} {env env' : Env} {σ σ' : AS}, seqA P cx call all a env σ = some (env', σ') → seqA P cx call all (a ++ b) env σ = seqA P cx call all b env' σ'
  | [], env, env', σ, σ', h => by
    simp only [seqA, Option.some.injEq, Prod.mk.injEq] at h
    obtain ⟨rfl, rfl⟩ := h
    rfl
  | o :: os, env, env', σ, σ', h => by
    simp only [seqA, List.cons_append] at h ⊢
    split at h
    · rename_i hw
      rw [if_pos hw]
      by_cases hv : isVal P o = true
      · rw [if_pos hv] at h ⊢
        by_cases ho : optsA env o = true
        · rw [if_pos ho] at h ⊢
          cases he : valA P σ env o with
          | none => rw [he] at h; cases h
          | some v => rw [he] at h; exact seqA_append h
        · rw [if_neg ho] at h; cases h
      · rw [if_neg hv] at h ⊢
        cases he : effA P cx call σ env o with
        | none => rw [he] at h; cases h
        | some v => rw [he] at h; exact seqA_append h
    · rename_i hw
      rw [if_neg hw]
      exact seqA_append h
theorem execW_seq_of {P : Program} {cx : Cx} {tails : List Nat} {call : Caller} {a b : Code} {st st1 : St} {r : Option (AExit × St)} (h : execW P cx tails call a st = some (.normal, st1)) (h' : execW P cx tails call b st1 = r) : execW P cx tails call (a.seq b) st = r := by
  simp only [execW, h]
  exact h'
theorem execW_assoc {P : Program} {cx : Cx} {tails : List Nat} {call : Caller} (a b c : Code) (st : St) : execW P cx tails call ((a.seq b).seq c) st = execW P cx tails call (a.seq (b.seq c)) st := by
  simp only [execW]
  cases execW P cx tails call a st with
  | none => rfl
  | some x => obtain ⟨e, st1⟩ := x; cases e <;> rfl
theorem execW_congr {P : Program} {cx : Cx} {tails : List Nat} {call : Caller} (a : Code) {b c : Code} (h : ∀ st, execW P cx tails call b st = execW P cx tails call c st) (st : St) : execW P cx tails call (a.seq b) st = execW P cx tails call (a.seq c) st := by
  simp only [execW]
  cases execW P cx tails call a st with
  | none => rfl
  | some x => obtain ⟨e, st1⟩ := x; cases e <;> first | rfl | exact h st1
theorem execW_seq2_of {P : Program} {cx : Cx} {tails : List Nat} {call : Caller} {a b c : Code} {st st1 : St} {r : Option (AExit × St)} (h : execW P cx tails call (a.seq b) st = some (.normal, st1)) (h' : execW P cx tails call c st1 = r) : execW P cx tails call (a.seq (b.seq c)) st = r :=
  (execW_assoc a b c st).symm.trans (execW_seq_of h h')
theorem execW_seq3_of {P : Program} {cx : Cx} {tails : List Nat} {call : Caller} {a b c d : Code} {st st1 : St} {r : Option (AExit × St)} (h : execW P cx tails call (a.seq (b.seq c)) st = some (.normal, st1)) (h' : execW P cx tails call d st1 = r) : execW P cx tails call (a.seq (b.seq (c.seq d))) st = r :=
  (execW_congr a (fun st => (execW_assoc b c d st).symm) st).trans (execW_seq2_of h h')
theorem execW_seq4_of {P : Program} {cx : Cx} {tails : List Nat} {call : Caller} {a b c d e : Code} {st st1 : St} {r : Option (AExit × St)} (h : execW P cx tails call (a.seq (b.seq (c.seq d))) st = some (.normal, st1)) (h' : execW P cx tails call e st1 = r) : execW P cx tails call (a.seq (b.seq (c.seq (d.seq e)))) st = r :=
  (execW_congr a (execW_congr b (fun st => (execW_assoc c d e st).symm)) st).trans (execW_seq3_of h h')
def opsOf : Code → List Oper
  | .region _ ops _ => ops.toList
  | _ => []
theorem execW_quiet {P : Program} {cx : Cx} {tails : List Nat} {call : Caller} {id : Nat} {ops : Array Oper} {env env1 env' : Env} {σ σ' : AS} {ns nh : List AObj}
    (hb : tails.contains (id + 1000000) = false) (hb2 : tails.contains (id + 2000000) = false)
    (h1 : quietA P cx call σ ops.toList (ops.toList.take (quietN P (tmode tails id) ops.toList)) env [] [] = some (env1, ns, nh))
    (h2 : (nh.isEmpty || cx.ro.isNone) = true)
    (h3 : seqA P cx call ops.toList (ops.toList.drop (quietN P (tmode tails id) ops.toList)) env1 { hp := σ.hp ++ nh, st := σ.st ++ ns } = some (env', σ')) :
    execW P cx tails call (.region id ops true) (env, σ) = some (.normal, (env', σ')) := by
  simp only [execW, regionA, if_true, hb, hb2, Bool.false_eq_true, if_false, h1, h2, h3]
theorem execW_mix {P : Program} {cx : Cx} {tails : List Nat} {call : Caller} {id : Nat} {ops : Array Oper} {env env' : Env} {σ σ' : AS}
    (hb : tails.contains (id + 1000000) = false) (hb2 : tails.contains (id + 2000000) = true) (h : mixA P cx call σ ops.toList env = some (env', σ')) (hb4 : tails.contains (id + 4000000) = false := by rfl) :
    execW P cx tails call (.region id ops true) (env, σ) = some (.normal, (env', σ')) := by
  simp only [execW, regionA, frzR, hb4, if_true, hb, hb2, Bool.false_eq_true, if_false, h]
theorem execW_plain {P : Program} {cx : Cx} {tails : List Nat} {call : Caller} {id : Nat} {ops : Array Oper} {env env' : Env} {σ σ' : AS}
    (h : seqA P cx call ops.toList ops.toList env σ = some (env', σ')) : execW P cx tails call (.region id ops false) (env, σ) = some (.normal, (env', σ')) := by
  simp only [execW, regionA, Bool.false_eq_true, if_false, h]
end Go.Abs
end
section
namespace Go.Abs
open Go.RowKit Go.MapKept Go.Maps
section
variable {ρ : Rho} {σ : AS} {w w' : World}
theorem SR.free_new (s : SR ρ σ w) {b : Nat} (hb : w.heap.size ≤ b) : Free ρ b :=
  ⟨fun L p hp hl e => by have := s.lt L p hp hl; omega, fun h => by have := s.resl b h; omega⟩
theorem Ext.below (h : Below w.heap.size w w') (s : SR ρ σ w) : Ext ρ w ρ w' :=
  ⟨fun _ p hp => ⟨p, hp, rfl, Nat.le_refl _, fun _ => ⟨rfl, rfl, rfl, rfl⟩, fun _ => rfl⟩, fun b hb hf => ⟨hf, h.block b hb⟩, ⟨rfl, fun b hb _ => h.block b hb⟩, h.size, h.os, h.tape, h.output⟩
theorem OR.below (h : Below w.heap.size w w') (s : SR ρ σ w) {L : Loc} {p : Place} (hp : ρ L = some p) {ob : AObj} (o : OR ρ w p ob) : OR ρ w' p ob := by
  have x := Ext.below h s
  cases ob with
  | cells cs =>
    obtain ⟨hl, hr, vs, E, e1, e2, e3⟩ := o
    exact ⟨hl, hr, vs, E, (h.block _ (s.lt L p hp hl)).trans e1, e2, fun i c v hc hv => (e3 i c v hc hv).mono x⟩
  | row es sz v fro =>
    obtain ⟨hr, hv, hz, h0, hl, hc, hk, hf, vs, E, fz, e1, e2, e3, e4⟩ := o
    have hb : p.b < w.heap.size := by
      cases fro with
      | true => exact (hf rfl).2
      | false => exact s.lt L p hp (by simpa using hl)
    exact ⟨hr, hv, hz, h0, hl, hc, hk, fun e => ⟨(hf e).1, Nat.lt_of_lt_of_le (hf e).2 h.size⟩, vs, E, fz, (h.block _ hb).trans e1, e2, e3, fun i e j c u a1 a2 a3 => (e4 i e j c u a1 a2 a3).mono x⟩
  | map es =>
    obtain ⟨hl, hr, arr, clock, e1, e2, e3, e4⟩ := o
    exact ⟨hl, hr, arr, clock, (h.block _ (s.lt L p hp hl)).trans e1, e2, e3, fun i e m a1 a2 => ⟨(e4 i e m a1 a2).1, (e4 i e m a1 a2).2.1, ((e4 i e m a1 a2).2.2.1).mono x, ((e4 i e m a1 a2).2.2.2).mono x⟩⟩
  | iter m =>
    obtain ⟨hl, hr, i1, mb, since, seen, last, e1, e2⟩ := o
    exact ⟨hl, hr, i1, mb, since, seen, last, (h.block _ (s.lt L p hp hl)).trans e1, e2.mono x⟩
  | dead => exact o
theorem SR.below (h : Below w.heap.size w w') (s : SR ρ σ w) : SR ρ σ w' := {
  objD L ob hg hd := by
    obtain ⟨p, hp, o⟩ := s.objD L ob hg hd
    exact ⟨p, hp, OR.below h s hp o⟩
  dom := s.dom
  inj := s.inj
  lt L p hp hl := Nat.lt_of_lt_of_le (s.lt L p hp hl) h.size
  hin := s.hin
  nres := s.nres
  resl b hb := Nat.lt_of_lt_of_le (s.resl b hb) h.size
  glb := (Ext.below h s).glb s }
end
def insB {α : Type} (le : α → α → Bool) (a : α) : List α → List α
  | [] => [a]
  | b :: l => if le a b = true then a :: b :: l else b :: insB le a l
def isortB {α : Type} (le : α → α → Bool) : List α → List α
  | [] => []
  | a :: l => insB le a (isortB le l)
section
variable {α : Type} {le : α → α → Bool}
theorem insB_perm (a : α) : ∀ l : List α, (insB le a l).Perm (a :: l)
  | [] => List.Perm.refl _
  | b :: l => by
    unfold insB
    split
    · exact List.Perm.refl _
    · exact ((insB_perm a l).cons b).trans (List.Perm.swap a b l)
theorem isortB_perm : ∀ l : List α, (isortB le l).Perm l
  | [] => List.Perm.refl _
  | a :: l => (insB_perm a _).trans ((isortB_perm l).cons a)
theorem insB_sorted (tr : ∀ a b c, le a b = true → le b c = true → le a c = true) (to : ∀ a b, (le a b || le b a) = true) (a : α) : ∀ l : List α, l.Pairwise (fun x y => le x y = true) → (insB le a l).Pairwise (fun x y => le x y = true)
  | [], _ => by simp [insB]
  | b :: l, h => by
    unfold insB
    split
    · rename_i hab
      refine List.pairwise_cons.2 ⟨fun x hx => ?_, h⟩
      rcases List.mem_cons.1 hx with rfl | hx
      · exact hab
      · exact tr _ _ _ hab ((List.pairwise_cons.1 h).1 x hx)
    · rename_i hab
      refine List.pairwise_cons.2 ⟨fun x hx => ?_, insB_sorted tr to a l (List.pairwise_cons.1 h).2⟩
      rcases List.mem_cons.1 ((insB_perm a l).mem_iff.1 hx) with rfl | hx
      · have := to x b
        simp only [Bool.or_eq_true] at this
        rcases this with h1 | h1
        · exact absurd h1 hab
        · exact h1
      · exact (List.pairwise_cons.1 h).1 x hx
theorem isortB_sorted (tr : ∀ a b c, le a b = true → le b c = true → le a c = true) (to : ∀ a b, (le a b || le b a) = true) : ∀ l : List α, (isortB le l).Pairwise (fun x y => le x y = true)
  | [] => List.Pairwise.nil
  | a :: l => insB_sorted tr to a _ (isortB_sorted tr to l)
end
theorem isortB_int {l l' : List Int} (h : l.Perm l') : l'.mergeSort leI = isortB leI l := by
  have tr : ∀ a b c : Int, leI a b = true → leI b c = true → leI a c = true := fun a b c h1 h2 => by simp only [leI, decide_eq_true_eq] at *; exact Int.le_trans h1 h2
  have to : ∀ a b : Int, (leI a b || leI b a) = true := fun a b => by simp only [leI, Bool.or_eq_true, decide_eq_true_eq]; exact Int.le_total a b
  refine List.Perm.eq_of_pairwise (le := fun a b => leI a b = true) (fun a b _ _ h1 h2 => ?_) (List.pairwise_mergeSort tr to l') (isortB_sorted tr to l) ((List.mergeSort_perm l' leI).trans (h.symm.trans (isortB_perm l).symm))
  simp only [leI, decide_eq_true_eq] at h1 h2
  exact Int.le_antisymm h1 h2
theorem isortB_str {l l' : List (List UInt8)} (h : l.Perm l') : l'.mergeSort leB = isortB leB l := by
  have tr : ∀ a b c : List UInt8, leB a b = true → leB b c = true → leB a c = true := fun a b c h1 h2 => by simp only [leB, decide_eq_true_eq] at *; exact List.le_trans h1 h2
  have to : ∀ a b : List UInt8, (leB a b || leB b a) = true := fun a b => by simp only [leB, Bool.or_eq_true, decide_eq_true_eq]; exact List.le_total a b
  refine List.Perm.eq_of_pairwise (le := fun a b => leB a b = true) (fun a b _ _ h1 h2 => ?_) (List.pairwise_mergeSort tr to l') (isortB_sorted tr to l) ((List.mergeSort_perm l' leB).trans (h.symm.trans (isortB_perm l).symm))
  simp only [leB, decide_eq_true_eq] at h1 h2
  exact List.le_antisymm h1 h2
end Go.Abs
end
section
namespace Go.Abs
open Go.RowKit Go.MapKept Go.Maps Go.ChangeMaps
structure KeyKind (α : Type) where
  at? : AV → Option α
  av : α → AV
  val : α → Value
  lit : α → Lit
  of : DataW Unit → List α
  le : α → α → Bool
  most : Nat
def keyListA {α : Type} (K : KeyKind α) : List (AV × AV) → Option (List α)
  | [] => some []
  | e :: es => match K.at? e.1, keyListA K es with
    | some k, some ks => some (k :: ks)
    | _, _ => none
def slK : List AV → AV
  | [] => .nils
  | l => .sl false 1 l
def sortedA {α : Type} (K : KeyKind α) (g : FuncId) (args : List AV) (σ : AS) (_ : Option Nat) : Option (AV × AS) :=
  match args with
  | [.fn (.func g') [] [.ptr L 0]] => if g' = g then
      match σ.get L with
      | some (.cells [.nilm]) => some (.nils, σ)
      | some (.cells [.map M]) => match σ.get M with
        | some (.map es) => match keyListA K es with
          | some ks => if ks.length ≤ K.most then some (slK ((isortB K.le ks).map K.av), σ) else none
          | none => none
        | _ => none
      | _ => none
    else none
  | _ => none
structure KeyKindOk {α : Type} (P : Program) (kt : TypeId) (K : KeyKind α) : Prop where
  key : ∀ a k, K.at? a = some k → a = K.av k ∧ keyOf P kt (K.val k) = some (K.lit k)
  vr : ∀ ρ w k u, VR ρ w (K.av k) u → u = K.val k
  rv : ∀ ρ w k, VR ρ w (K.av k) (K.val k)
  one : ∀ k, okE 1 (K.av k) = true ∧ (K.av k).cells = [K.av k]
  of : ∀ es : List (Lit × DataW Unit), ∀ ks : List α, es.map (·.1) = ks.map K.lit → K.of (.map es) = ks
  perm : ∀ (es es' : List (Lit × DataW Unit)), es.Perm es' → (K.of (.map es)).Perm (K.of (.map es'))
  sort : ∀ l l', l.Perm l' → l'.mergeSort K.le = isortB K.le l
  most : K.most ≤ maxLen
structure SortedCon {α : Type} (P : Program) (f g : FuncId) (kt : TypeId) (K : KeyKind α) : Prop where
  ent : ∃ fn, P.funcs[f]? = some fn ∧ fn.body.isSome = true ∧ (fn.name == "runtime.NumGoroutine") = false
  run : ∀ (b nn Bm : Nat) (D0 : DataW Unit) (R : Value → Option (DataW Unit × List MemPlace)) (w : World), Bm < w.heap.size → w.cell? ⟨Bm, 0, none⟩ = some (.map (some b)) → w.ownsMap P kt R b nn D0 → Maps.size D0 ≤ K.most →
    Calls P f #[.func (.func g) #[] #[.pointer (some ⟨Bm, 0, none⟩)]] w fun e w' => ∃ (v : Value) (ss : List α), e = .returned v ∧ ss.Perm (K.of D0) ∧
      w'.ownsRow w.heap.size kt 1 v ss.length ((ss.mergeSort K.le).map K.val) ∧ (v = .slice none 0 0 ↔ ss = []) ∧ Below w.heap.size w w'
  nil : ∀ (Bm : Nat) (w : World), Bm < w.heap.size → w.cell? ⟨Bm, 0, none⟩ = some (.map none) →
    Calls P f #[.func (.func g) #[] #[.pointer (some ⟨Bm, 0, none⟩)]] w fun e w' => e = .returned (.slice none 0 0) ∧ Below w.heap.size w w'
def anyRead : Value → Option (DataW Unit × List MemPlace) := fun _ => some (.nil, [])
section
variable {α : Type} {P : Program} {kt : TypeId} {K : KeyKind α} (hK : KeyKindOk P kt K)
include hK
theorem keyListA_of : ∀ {es : List (AV × AV)} {ks : List α}, keyListA K es = some ks → es.map (·.1) = ks.map K.av
  | [], ks, h => by simp only [keyListA, Option.some.injEq] at h; subst h; rfl
  | e :: es, ks, h => by
    unfold keyListA at h
    split at h
    · rename_i k ks' h1 h2
      cases h
      simp only [List.map_cons, (hK.key _ _ h1).1, keyListA_of h2]
    · cases h
theorem keyListA_keys : ∀ {es : List (AV × AV)} {ks : List α}, keyListA K es = some ks → ∀ k ∈ ks, keyOf P kt (K.val k) = some (K.lit k)
  | [], ks, h, k, hk => by simp only [keyListA, Option.some.injEq] at h; subst h; cases hk
  | e :: es, ks, h, k, hk => by
    unfold keyListA at h
    split at h
    · rename_i k' ks' h1 h2
      cases h
      rcases List.mem_cons.1 hk with rfl | hk
      · exact (hK.key _ _ h1).2
      · exact keyListA_keys h2 k hk
    · cases h
theorem owns_of {ρ : Rho} {w : World} {p : Place} {es : List (AV × AV)} {ks : List α} (h : keyListA K es = some ks) (hn : ks.length ≤ maxLen) (o : OR ρ w p (.map es)) :
    ∃ D0 : DataW Unit, w.ownsMap P kt anyRead p.b ks.length D0 ∧ (K.of D0).Perm ks ∧ Maps.size D0 = ks.length := by
  obtain ⟨_, _, arr, clock, hb, hl, hs, he⟩ := o
  have e1 := keyListA_of hK h
  have hlen : ks.length = arr.size := by rw [← hl]; simpa using (congrArg List.length e1).symm
  have hkey : ∀ (i : Nat) (m : MapEntry), arr[i]? = some m → ∃ k, ks[i]? = some k ∧ m.key = K.val k ∧ keyOf P kt m.key = some (K.lit k) := by
    intro i m hm
    have hi : i < arr.size := (Array.getElem?_eq_some_iff.1 hm).1
    have hi2 : i < es.length := by omega
    have hi3 : i < ks.length := by omega
    have a1 : es[i]? = some es[i] := List.getElem?_eq_getElem hi2
    have a2 : ks[i]? = some ks[i] := List.getElem?_eq_getElem hi3
    have a3 : (es.map (·.1))[i]? = (ks.map K.av)[i]? := by rw [e1]
    rw [List.getElem?_map, List.getElem?_map, a1, a2] at a3
    have a4 : es[i].1 = K.av ks[i] := by simpa using a3
    have a5 := (he i _ m a1 hm).2.2.1
    rw [a4] at a5
    have a6 := hK.vr _ _ _ _ a5
    exact ⟨_, a2, a6, by rw [a6]; exact keyListA_keys hK h _ (List.getElem_mem hi3)⟩
  have hrd : ∀ (i : Nat) (m : MapEntry), arr[i]? = some m → ∃ k, ks[i]? = some k ∧ Go.WideElems.rd P kt anyRead m = some (K.lit k, .nil) := by
    intro i m hm
    obtain ⟨k, h1, h2, h3⟩ := hkey i m hm
    exact ⟨k, h1, by simp [Go.WideElems.rd, h3, anyRead]⟩
  have hfit : Go.WideElems.Fit P kt anyRead arr clock := by
    refine ⟨by omega, hs, fun x hx => ?_⟩
    obtain ⟨i, hi⟩ := List.getElem?_of_mem hx
    obtain ⟨k, _, h2⟩ := hrd i x (by simpa using hi)
    exact ⟨_, h2⟩
  have hmap : (arr.toList.map (Go.WideElems.rg P kt anyRead)).map (·.1) = ks.map K.lit := by
    refine List.ext_getElem? fun i => ?_
    simp only [List.getElem?_map, Array.getElem?_toList]
    cases hm : arr[i]? with
    | none =>
      have : ks[i]? = none := by
        rw [List.getElem?_eq_none_iff]
        rw [Array.getElem?_eq_none_iff] at hm
        omega
      rw [this]; rfl
    | some m =>
      obtain ⟨k, h1, h2⟩ := hrd i m hm
      rw [h1]
      simp [Go.WideElems.rg_of h2]
  have hperm := Go.WideShapes.sorted_perm (arr.toList.map (Go.WideElems.rg P kt anyRead))
  refine ⟨.map ((arr.toList.map (Go.WideElems.rg P kt anyRead)).foldr DataW.insert []), ⟨arr, clock, hb, hfit, by omega, rfl⟩, ?_, ?_⟩
  · exact (hK.perm _ _ hperm).trans (by rw [hK.of _ _ hmap])
  · rw [Maps.size_eq, hperm.length_eq]
    simpa using hlen.symm
theorem slK_vr {ρ : Rho} {σ : AS} {w w' : World} (s : SR ρ σ w) (hb : Below w.heap.size w w') {ks : List α} {v : Value} {n : Nat} (hn : ks.length = n) (ho : w'.ownsRow w.heap.size kt 1 v n (ks.map K.val)) (hnil : v = .slice none 0 0 ↔ n = 0) : VR ρ w' (slK (ks.map K.av)) v := by
  obtain ⟨_, h⟩ := ho
  cases ks with
  | nil =>
    have : v = .slice none 0 0 := hnil.2 (by simpa using hn.symm)
    subst this
    exact .nils
  | cons k ks =>
    rcases h with ⟨_, h0⟩ | ⟨b, cap, cur, rfl, h1, h2, h3, h4, h5, h6⟩
    · simp at hn; omega
    · have hlen : ((k :: ks).map K.av).length = n := by simpa using hn
      rw [← hlen]
      have hsz : n * 1 = n := by omega
      rw [hsz] at h6
      have hcell : ∀ (i : Nat) (x : α), (k :: ks)[i]? = some x → w'.cell? ⟨b, i, none⟩ = some (K.val x) := by
        intro i x hx
        have hi : i < n := by rw [← hn]; exact (List.getElem?_eq_some_iff.1 hx).1
        have e1 : (cur.toList.take n)[i]? = some (K.val x) := by rw [h6, List.getElem?_map, hx]; rfl
        rw [List.getElem?_take, if_pos hi] at e1
        simp only [World.cell?, h2]
        simpa using e1
      have h6' := h6
      refine .sl false 1 _ ⟨b, 0, none⟩ cap (fun i _ => ((k :: ks)[i]?.map K.val).getD .nilFunc) (by omega) (fun h => by cases h) (fun _ => ⟨rfl, ?_, s.free_new h1⟩) ?_ ?_ ?_
      · have := (Array.getElem?_eq_some_iff.1 h2).1
        exact this
      · intro e he
        obtain ⟨x, _, rfl⟩ := List.mem_map.1 he
        exact (hK.one x).1
      · intro i e j c hi hj
        rw [List.getElem?_map] at hi
        obtain ⟨x, hx, rfl⟩ := Option.map_eq_some_iff.1 hi
        rw [(hK.one x).2] at hj
        have hj0 : j = 0 := by
          rcases j with _ | j
          · rfl
          · simp at hj
        subst hj0
        simp only [hx, Option.map_some, Option.getD_some]
        have := hcell i x hx
        simpa using this
      · intro i e j c hi hj
        rw [List.getElem?_map] at hi
        obtain ⟨x, hx, rfl⟩ := Option.map_eq_some_iff.1 hi
        rw [(hK.one x).2] at hj
        have hc : c = K.av x := by
          rcases j with _ | j
          · simpa using hj.symm
          · simp at hj
        subst hc
        simp only [hx, Option.map_some, Option.getD_some]
        exact hK.rv _ _ _
theorem sorted_prim {f g : FuncId} (hC : SortedCon P f g kt K) : PrimOk P f (sortedA K g) := {
  ent := hC.ent
  snd := by
    intro args σ ro v σ' h ρ w us s hv
    unfold sortedA at h
    split at h
    · rename_i g' L
      split at h
      · rename_i hg
        subst hg
        obtain ⟨hl, hvs⟩ := hv
        match us, hl with
        | [u], _ =>
          have hu := hvs 0 _ u rfl rfl
          cases hu with
          | fn _ _ _ vs us' l1 l2 h1 h2 =>
            obtain rfl : vs = #[] := Array.eq_empty_of_size_eq_zero (by simpa using l1.symm)
            have hsz : us'.size = 1 := by simpa using l2.symm
            obtain ⟨u', rfl⟩ : ∃ u', us' = #[u'] := by
              refine ⟨us'[0], ?_⟩
              apply Array.ext
              · simp [hsz]
              · intro i hi1 hi2
                have : i = 0 := by omega
                subst this
                rfl
            have hu' := h2 0 _ u' rfl rfl
            cases hu' with
            | ptr _ _ p hp hr =>
              split at h
              · rename_i hg
                cases h
                obtain ⟨p', hp', o⟩ := s.obj L _ hg
                rw [hp] at hp'
                cases hp'
                obtain ⟨hlive, _, xs, E, hb, hlen, hx⟩ := o
                have hx0 : xs[0]? = some xs[0]! := by
                  have : 0 < xs.size := by simp at hlen; omega
                  simp [this]
                have hm := hx 0 _ _ rfl hx0
                cases hvm : xs[0]! with
                | map mb =>
                  rw [hvm] at hm hx0
                  cases hm
                  have hcell : w.cell? ⟨p.b, 0, none⟩ = some (.map none) := by simp [World.cell?, hb, hx0]
                  refine (hC.nil p.b w (s.lt L p hp hlive) hcell).mono fun e w' ⟨he, hbl⟩ => ?_
                  exact ⟨ρ, _, he, Ext.below hbl s, SR.below hbl s, .nils⟩
                | _ => rw [hvm] at hm; cases hm
              · rename_i M hg
                split at h
                · rename_i es hM
                  split at h
                  · rename_i ks hks
                    split at h
                    · rename_i hn
                      cases h
                      obtain ⟨p', hp', o⟩ := s.obj L _ hg
                      rw [hp] at hp'
                      cases hp'
                      obtain ⟨hlive, _, xs, E, hb, hlen, hx⟩ := o
                      have hx0 : xs[0]? = some xs[0]! := by
                        have : 0 < xs.size := by simp at hlen; omega
                        simp [this]
                      have hm := hx 0 _ _ rfl hx0
                      cases hvm : xs[0]! with
                      | map mb =>
                        rw [hvm] at hm hx0
                        cases hm with
                        | map _ q hq hqr =>
                          have hcell : w.cell? ⟨p.b, 0, none⟩ = some (.map (some q.b)) := by simp [World.cell?, hb, hx0]
                          obtain ⟨q', hq', oq⟩ := s.obj M _ hM
                          rw [hq] at hq'
                          cases hq'
                          obtain ⟨D0, hown, hperm, hsize⟩ := owns_of hK hks (Nat.le_trans hn hK.most) oq
                          refine (hC.run q.b _ p.b D0 anyRead w (s.lt L p hp hlive) hcell hown (by omega)).mono ?_
                          rintro e w' ⟨v, ss, rfl, hss, hrow, hnil, hbl⟩
                          have hso : ss.mergeSort K.le = isortB K.le ks := hK.sort _ _ (hperm.symm.trans hss.symm)
                          rw [hso] at hrow
                          refine ⟨ρ, v, rfl, Ext.below hbl s, SR.below hbl s, slK_vr hK s hbl ?_ hrow ?_⟩
                          · rw [(isortB_perm ks).length_eq, ← hperm.length_eq, hss.length_eq]
                          · rw [hnil]; constructor
                            · rintro rfl; rfl
                            · exact List.eq_nil_of_length_eq_zero
                      | _ => rw [hvm] at hm; cases hm
                    · cases h
                  · cases h
                · cases h
              · cases h
      · cases h
    · cases h
  beh := by
    intro args σ ro v σ' h
    unfold sortedA at h
    repeat' split at h
    all_goals first | (cases h; exact Beh.refl _ _ _) | (cases h; done) }
end
end Go.Abs
end
