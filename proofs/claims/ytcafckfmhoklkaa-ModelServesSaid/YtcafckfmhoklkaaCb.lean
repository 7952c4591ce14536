/- How each function is run, and what some types are. -/

import Derived.Test.YtcafckfmhoklkaaCa
import Derived.Test.YtcafckfmhoklkaaAbs13
import Derived.Test.YtcafckfmhoklkaaChecked
open Go Go.Abs Go.Proofs
set_option maxRecDepth 100000
set_option maxHeartbeats 4000000
set_option linter.unusedSimpArgs false
set_option linter.unusedVariables false

def bodyTab : List (Nat × Flags) := [(3, {esc := [22]}), (22, {esc := [1, 3]}), (40, {tails := [2000006]})]
noncomputable def how (f : FuncId) : Option How := match bodyTab.find? (fun p => p.1 == f) with
  | some p => some (.body p.2)
  | none => if (decide (f < 46) && !(f == 41)) = true then some (.body {}) else none
section
@[simp] theorem z3 : zeroA Try.prog 3 = some (.int .i64 0) := by kernel_rfl
@[simp] theorem z4 : zeroA Try.prog 4 = some (.bool false) := by kernel_rfl
@[simp] theorem z9 : zeroA Try.prog 9 = some (.str ⟨#[]⟩) := by kernel_rfl
@[simp] theorem z27 : zeroA Try.prog 27 = some (.agg [.nils]) := by kernel_rfl
@[simp] theorem z32 : zeroA Try.prog 32 = some (.agg [.int .i64 0, .str ⟨#[]⟩, .str ⟨#[]⟩, .nils, .nils]) := by kernel_rfl
@[simp] theorem z36 : zeroA Try.prog 36 = some (.agg [.int .i64 0, .str ⟨#[]⟩, .str ⟨#[]⟩, .nils, .nils]) := by kernel_rfl
@[simp] theorem z39 : zeroA Try.prog 39 = some (.int .u64 0) := by kernel_rfl
@[simp] theorem z41 : zeroA Try.prog 41 = some (.agg [.int .i64 0, .int .u64 0]) := by kernel_rfl
@[simp] theorem z43 : zeroA Try.prog 43 = some (.int .i64 0) := by kernel_rfl
@[simp] theorem z45 : zeroA Try.prog 45 = some (.agg [.int .i64 0, .int .u64 0, .int .i64 0, .int .i64 0, .str ⟨#[]⟩, .int .u64 0]) := by kernel_rfl
@[simp] theorem z47 : zeroA Try.prog 47 = some (.agg [.int .i64 0, .int .u64 0, .int .i64 0, .str ⟨#[]⟩, .str ⟨#[]⟩, .nils, .nils, .int .i64 0, .int .i64 0, .int .i64 0, .int .i64 0, .int .i64 0, .int .u64 0, .int .i64 0, .int .i64 0, .str ⟨#[]⟩, .int .u64 0]) := by kernel_rfl
@[simp] theorem z49 : zeroA Try.prog 49 = some (.agg [.str ⟨#[]⟩, .int .u64 0, .str ⟨#[]⟩, .bool false]) := by kernel_rfl
@[simp] theorem z52 : zeroA Try.prog 52 = some (.agg [.int .i64 0, .int .u64 0, .bool false, .nils, .nils]) := by kernel_rfl
@[simp] theorem z55 : zeroA Try.prog 55 = some (.agg [.str ⟨#[]⟩, .int .u64 0]) := by kernel_rfl
@[simp] theorem z57 : zeroA Try.prog 57 = some (.agg [.int .i64 0, .int .u64 0, .int .i64 0, .int .i64 0, .str ⟨#[]⟩, .int .u64 0]) := by kernel_rfl
@[simp] theorem z59 : zeroA Try.prog 59 = some (.agg [.int .i64 0, .int .u64 0, .int .i64 0, .str ⟨#[]⟩, .str ⟨#[]⟩, .nils, .nils, .int .i64 0, .int .i64 0, .int .i64 0, .int .i64 0, .int .i64 0, .int .u64 0, .int .i64 0, .int .i64 0, .str ⟨#[]⟩, .int .u64 0]) := by kernel_rfl
@[simp] theorem z69 : zeroA Try.prog 69 = some (.agg [.int .i64 0, .int .u64 0, .bool false, .nils, .nils]) := by kernel_rfl
@[simp] theorem z76 : zeroA Try.prog 76 = some (.agg [.str ⟨#[]⟩, .str ⟨#[]⟩, .bool false]) := by kernel_rfl
@[simp] theorem z84 : zeroA Try.prog 84 = some (.agg [.str ⟨#[]⟩, .int .u64 0]) := by kernel_rfl
@[simp] theorem z85 : zeroA Try.prog 85 = some (.agg [.str ⟨#[]⟩, .str ⟨#[]⟩, .bool false]) := by kernel_rfl
@[simp] theorem z91 : zeroA Try.prog 91 = some (.agg [.nilm]) := by kernel_rfl
@[simp] theorem z98 : zeroA Try.prog 98 = some (.agg [.int .u64 0, .str ⟨#[]⟩, .bool false]) := by kernel_rfl
@[simp] theorem s3 : sizeA Try.prog 3 = some 1 := by kernel_rfl
@[simp] theorem s4 : sizeA Try.prog 4 = some 1 := by kernel_rfl
@[simp] theorem s5 : sizeA Try.prog 5 = some 1 := by kernel_rfl
@[simp] theorem s9 : sizeA Try.prog 9 = some 1 := by kernel_rfl
@[simp] theorem s22 : sizeA Try.prog 22 = some 1 := by kernel_rfl
@[simp] theorem s23 : sizeA Try.prog 23 = some 1 := by kernel_rfl
@[simp] theorem s24 : sizeA Try.prog 24 = some 1 := by kernel_rfl
@[simp] theorem s25 : sizeA Try.prog 25 = some 1 := by kernel_rfl
@[simp] theorem s27 : sizeA Try.prog 27 = some 1 := by kernel_rfl
@[simp] theorem s28 : sizeA Try.prog 28 = some 1 := by kernel_rfl
@[simp] theorem s29 : sizeA Try.prog 29 = some 1 := by kernel_rfl
@[simp] theorem s30 : sizeA Try.prog 30 = some 1 := by kernel_rfl
@[simp] theorem s32 : sizeA Try.prog 32 = some 5 := by kernel_rfl
@[simp] theorem s33 : sizeA Try.prog 33 = some 1 := by kernel_rfl
@[simp] theorem s34 : sizeA Try.prog 34 = some 1 := by kernel_rfl
@[simp] theorem s36 : sizeA Try.prog 36 = some 5 := by kernel_rfl
@[simp] theorem s39 : sizeA Try.prog 39 = some 1 := by kernel_rfl
@[simp] theorem s41 : sizeA Try.prog 41 = some 2 := by kernel_rfl
@[simp] theorem s43 : sizeA Try.prog 43 = some 1 := by kernel_rfl
@[simp] theorem s45 : sizeA Try.prog 45 = some 6 := by kernel_rfl
@[simp] theorem s47 : sizeA Try.prog 47 = some 17 := by kernel_rfl
@[simp] theorem s49 : sizeA Try.prog 49 = some 4 := by kernel_rfl
@[simp] theorem s52 : sizeA Try.prog 52 = some 5 := by kernel_rfl
@[simp] theorem s55 : sizeA Try.prog 55 = some 2 := by kernel_rfl
@[simp] theorem s57 : sizeA Try.prog 57 = some 6 := by kernel_rfl
@[simp] theorem s59 : sizeA Try.prog 59 = some 17 := by kernel_rfl
@[simp] theorem s64 : sizeA Try.prog 64 = some 1 := by kernel_rfl
@[simp] theorem s69 : sizeA Try.prog 69 = some 5 := by kernel_rfl
@[simp] theorem s76 : sizeA Try.prog 76 = some 3 := by kernel_rfl
@[simp] theorem s81 : sizeA Try.prog 81 = some 1 := by kernel_rfl
@[simp] theorem s84 : sizeA Try.prog 84 = some 2 := by kernel_rfl
@[simp] theorem s85 : sizeA Try.prog 85 = some 3 := by kernel_rfl
@[simp] theorem s89 : sizeA Try.prog 89 = some 1 := by kernel_rfl
@[simp] theorem s91 : sizeA Try.prog 91 = some 1 := by kernel_rfl
@[simp] theorem s98 : sizeA Try.prog 98 = some 3 := by kernel_rfl
end
attribute [simp] Try.underlying3 Try.underlying4 Try.underlying5 Try.underlying9 Try.underlying22 Try.underlying23 Try.underlying24 Try.underlying25 Try.underlying27 Try.underlying28 Try.underlying29 Try.underlying30 Try.underlying32 Try.underlying33 Try.underlying34 Try.underlying36 Try.underlying39 Try.underlying41 Try.underlying43 Try.underlying45 Try.underlying47 Try.underlying49 Try.underlying52 Try.underlying55 Try.underlying57 Try.underlying59 Try.underlying64 Try.underlying69 Try.underlying76 Try.underlying81 Try.underlying84 Try.underlying85 Try.underlying89 Try.underlying91 Try.underlying94 Try.underlying98 Try.underlying105