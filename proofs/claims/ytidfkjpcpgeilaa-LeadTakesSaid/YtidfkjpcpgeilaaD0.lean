/- The lead of a ballot, as a function. -/

import Derived.Test.YtidfkjpcpgeilaaAbs14
import Derived.Test.YtidfkjpcpgeilaaChecked
open Go Go.Abs Go.Proofs Go.RowKit
set_option maxRecDepth 100000
set_option maxHeartbeats 4000000
set_option linter.unusedSimpArgs false
set_option linter.unusedVariables false
namespace Ld
noncomputable def cr (p : List Dir) : Code := sub p (bodyOf Try.f30)
noncomputable def o2 : List Oper := opsOf (cr [.r, .l, .r, .i, .i, .l])
noncomputable def o3 : List Oper := opsOf (cr [.r, .l, .r, .i, .i, .r, .r, .i, .l])
noncomputable def o4 : List Oper := opsOf (cr [.r, .l, .r, .i, .i, .r, .r, .i, .r])
noncomputable def rnd : Code := .seq (.region 2 o2.toArray false) (.seq (.cond (.tmp 20) .skip (.exit 0)) (.block 1 (.seq (.region 3 o3.toArray false) (.region 4 o4.toArray false))))
theorem loop_eq : cr [.r, .l, .r] = .block 0 (.loop rnd) := by kernel_rfl
/-- What an entry's key is. -/
def KeyOk (k : AV) : Prop := ∃ n : Int, k = .int .i64 n ∧ 0 ≤ n ∧ n ≤ 1000
def keyI : AV → Int
  | .int _ n => n
  | _ => 0
/-- The greatest of the keys, one on; from on. -/
def nextI (from_ : Int) (es : List (AV × AV)) : Int := es.foldl (fun x e => max x (keyI e.1 + 1)) from_
noncomputable def N0 : Oper := o2.headD default
noncomputable def N1 : Oper := (o2.drop 1).headD default
noncomputable def E0 : Oper := o3.headD default
noncomputable def E1 : Oper := (o3.drop 1).headD default
noncomputable def E2 : Oper := (o3.drop 2).headD default
theorem o2_eq : o2 = [N0, N1] := by kernel_rfl
theorem o3_eq : o3 = [E0, E1, E2] := by kernel_rfl
theorem N0_op : N0.op = .next (.tmp 18) false := by kernel_rfl
theorem N0_dst : N0.dst = some 19 := by kernel_rfl
theorem N0_g : N0.guard = none := by kernel_rfl
theorem N1_op : N1.op = .extract (.tmp 19) 0 := by kernel_rfl
theorem N1_dst : N1.dst = some 20 := by kernel_rfl
theorem N1_g : N1.guard = none := by kernel_rfl
theorem E0_op : E0.op = .entry (.tmp 18) := by kernel_rfl
theorem E0_dst : E0.dst = some 21 := by kernel_rfl
theorem E0_g : E0.guard = none := by kernel_rfl
theorem E1_op : E1.op = .extract (.tmp 21) 0 := by kernel_rfl
theorem E1_dst : E1.dst = some 22 := by kernel_rfl
theorem E1_g : E1.guard = none := by kernel_rfl
theorem E2_op : E2.op = .assign (.tmp 22) := by kernel_rfl
theorem E2_dst : E2.dst = some 2 := by kernel_rfl
theorem E2_g : E2.guard = none := by kernel_rfl
noncomputable def o4s : Oper := (o4.drop 10).headD default
theorem o4_eq : o4 = o4.take 10 ++ [o4s] := by kernel_rfl
theorem o4s_g : o4s.guard = none := by kernel_rfl
theorem o4s_dst : o4s.dst = none := by kernel_rfl
theorem o4s_op : o4s.op = .store 3 (.tmp 32) (.tmp 30) := by kernel_rfl
end Ld
