/- Pieces of a region. -/
import Derived.Test.YtjhgheheopcolaaGreatAbs37
set_option linter.unusedVariables false
set_option linter.unusedSimpArgs false
namespace Go.Abs
theorem quietA_append {P : Program} {cx : Cx} {call : Caller} {σ : AS} {all : List Oper} {b : List Oper} : ∀ {a : List Oper} {env env' : Env} {ns ns' nh nh' : List AObj}, quietA P cx call σ all a env ns nh = some (env', ns', nh') → quietA P cx call σ all (a ++ b) env ns nh = quietA P cx call σ all b env' ns' nh'
  | [], env, env', ns, ns', nh, nh', h => by
    simp only [quietA, Option.some.injEq, Prod.mk.injEq] at h
    obtain ⟨rfl, rfl, rfl⟩ := h
    rfl
  | o :: os, env, env', ns, ns', nh, nh', h => by
    simp only [quietA, List.cons_append] at h ⊢
    split at h
    · rename_i v hq
      exact quietA_append h
    · rename_i v ob hq
      split at h
      · rename_i hx
        rw [if_pos hx]
        exact quietA_append h
      · rename_i hx
        rw [if_neg hx]
        exact quietA_append h
    · cases h
theorem seqA_append {P : Program} {cx : Cx} {call : Caller} {all : List Oper} {b : List Oper} : ∀ {a : List Oper} {env env' : Env} {σ σ' : AS}, seqA P cx call all a env σ = some (env', σ') → seqA P cx call all (a ++ b) env σ = seqA P cx call all b env' σ'
  | [], env, env', σ, σ', h => by
    simp only [seqA, Option.some.injEq, Prod.mk.injEq] at h
    obtain ⟨rfl, rfl⟩ := h
    rfl
  | o :: os, env, env', σ, σ', h => by
    simp only [seqA, List.cons_append] at h ⊢
    split at h
    · rename_i hw
      rw [if_pos hw]
      by_cases hv : isVal P o = true
      · rw [if_pos hv] at h ⊢
        by_cases ho : optsA env o = true
        · rw [if_pos ho] at h ⊢
          cases he : valA P σ env o with
          | none => rw [he] at h; cases h
          | some v => rw [he] at h; exact seqA_append h
        · rw [if_neg ho] at h; cases h
      · rw [if_neg hv] at h ⊢
        cases he : effA P cx call σ env o with
        | none => rw [he] at h; cases h
        | some v => rw [he] at h; exact seqA_append h
    · rename_i hw
      rw [if_neg hw]
      exact seqA_append h
theorem execW_seq_of {P : Program} {cx : Cx} {tails : List Nat} {call : Caller} {a b : Code} {st st1 : St} {r : Option (AExit × St)} (h : execW P cx tails call a st = some (.normal, st1)) (h' : execW P cx tails call b st1 = r) : execW P cx tails call (a.seq b) st = r := by
  simp only [execW, h]
  exact h'
theorem execW_assoc {P : Program} {cx : Cx} {tails : List Nat} {call : Caller} (a b c : Code) (st : St) : execW P cx tails call ((a.seq b).seq c) st = execW P cx tails call (a.seq (b.seq c)) st := by
  simp only [execW]
  cases execW P cx tails call a st with
  | none => rfl
  | some x => obtain ⟨e, st1⟩ := x; cases e <;> rfl
theorem execW_congr {P : Program} {cx : Cx} {tails : List Nat} {call : Caller} (a : Code) {b c : Code} (h : ∀ st, execW P cx tails call b st = execW P cx tails call c st) (st : St) : execW P cx tails call (a.seq b) st = execW P cx tails call (a.seq c) st := by
  simp only [execW]
  cases execW P cx tails call a st with
  | none => rfl
  | some x => obtain ⟨e, st1⟩ := x; cases e <;> first | rfl | exact h st1
theorem execW_seq2_of {P : Program} {cx : Cx} {tails : List Nat} {call : Caller} {a b c : Code} {st st1 : St} {r : Option (AExit × St)} (h : execW P cx tails call (a.seq b) st = some (.normal, st1)) (h' : execW P cx tails call c st1 = r) : execW P cx tails call (a.seq (b.seq c)) st = r :=
  (execW_assoc a b c st).symm.trans (execW_seq_of h h')
theorem execW_seq3_of {P : Program} {cx : Cx} {tails : List Nat} {call : Caller} {a b c d : Code} {st st1 : St} {r : Option (AExit × St)} (h : execW P cx tails call (a.seq (b.seq c)) st = some (.normal, st1)) (h' : execW P cx tails call d st1 = r) : execW P cx tails call (a.seq (b.seq (c.seq d))) st = r :=
  (execW_congr a (fun st => (execW_assoc b c d st).symm) st).trans (execW_seq2_of h h')
theorem execW_seq4_of {P : Program} {cx : Cx} {tails : List Nat} {call : Caller} {a b c d e : Code} {st st1 : St} {r : Option (AExit × St)} (h : execW P cx tails call (a.seq (b.seq (c.seq d))) st = some (.normal, st1)) (h' : execW P cx tails call e st1 = r) : execW P cx tails call (a.seq (b.seq (c.seq (d.seq e)))) st = r :=
  (execW_congr a (execW_congr b (fun st => (execW_assoc c d e st).symm)) st).trans (execW_seq3_of h h')
/-- A region's operations. -/
def opsOf : Code → List Oper
  | .region _ ops _ => ops.toList
  | _ => []
theorem execW_quiet {P : Program} {cx : Cx} {tails : List Nat} {call : Caller} {id : Nat} {ops : Array Oper} {env env1 env' : Env} {σ σ' : AS} {ns nh : List AObj}
    (hb : tails.contains (id + 1000000) = false) (hb2 : tails.contains (id + 2000000) = false)
    (h1 : quietA P cx call σ ops.toList (ops.toList.take (quietN P (tails.contains id) ops.toList)) env [] [] = some (env1, ns, nh))
    (h2 : (nh.isEmpty || cx.ro.isNone) = true)
    (h3 : seqA P cx call ops.toList (ops.toList.drop (quietN P (tails.contains id) ops.toList)) env1 { hp := σ.hp ++ nh, st := σ.st ++ ns } = some (env', σ')) :
    execW P cx tails call (.region id ops true) (env, σ) = some (.normal, (env', σ')) := by
  simp only [execW, regionA, if_true, hb, hb2, Bool.false_eq_true, if_false, h1, h2, h3]
theorem execW_mix {P : Program} {cx : Cx} {tails : List Nat} {call : Caller} {id : Nat} {ops : Array Oper} {env env' : Env} {σ σ' : AS}
    (hb : tails.contains (id + 1000000) = false) (hb2 : tails.contains (id + 2000000) = true) (h : mixA P cx call σ ops.toList env = some (env', σ')) :
    execW P cx tails call (.region id ops true) (env, σ) = some (.normal, (env', σ')) := by
  simp only [execW, regionA, if_true, hb, hb2, Bool.false_eq_true, if_false, h]
theorem execW_plain {P : Program} {cx : Cx} {tails : List Nat} {call : Caller} {id : Nat} {ops : Array Oper} {env env' : Env} {σ σ' : AS}
    (h : seqA P cx call ops.toList ops.toList env σ = some (env', σ')) : execW P cx tails call (.region id ops false) (env, σ) = some (.normal, (env', σ')) := by
  simp only [execW, regionA, Bool.false_eq_true, if_false, h]
end Go.Abs
