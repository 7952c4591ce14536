/- The program's functions, one by one. -/

import Derived.Test.YtidfkjpcpgeilaaA0
import Derived.Test.YtidfkjpcpgeilaaAbs14
import Derived.Test.YtidfkjpcpgeilaaChecked
open Go Go.Abs Go.Proofs
set_option maxRecDepth 100000
set_option maxHeartbeats 4000000
set_option linter.unusedSimpArgs false
set_option linter.unusedVariables false

def bodyTab : List (Nat × Flags) := [(3, {esc := [61]}), (4, {tails := [2000006]}), (5, {tails := [2000005, 2000006]}), (6, {esc := [12]}), (7, {esc := [46, 47], tails := [2000005]}), (10, {tails := [2000007]}), (14, {esc := [16]}), (15, {tails := [2000007, 2000013, 2000021]}), (20, {tails := [2000008, 2000015, 2000031]}), (22, {esc := [37]}), (33, {esc := [1]}), (36, {tails := [2000007]}), (43, {tails := [2000007]}), (56, {esc := [1]})]
section
@[simp] theorem z1 : zeroA Try.prog 1 = some (.nilf) := by kernel_rfl
@[simp] theorem s1 : sizeA Try.prog 1 = some 1 := by kernel_rfl
@[simp] theorem z2 : zeroA Try.prog 2 = some (.int .i64 0) := by kernel_rfl
@[simp] theorem s2 : sizeA Try.prog 2 = some 1 := by kernel_rfl
@[simp] theorem z3 : zeroA Try.prog 3 = some (.int .i64 0) := by kernel_rfl
@[simp] theorem s3 : sizeA Try.prog 3 = some 1 := by kernel_rfl
@[simp] theorem z4 : zeroA Try.prog 4 = some (.bool false) := by kernel_rfl
@[simp] theorem s4 : sizeA Try.prog 4 = some 1 := by kernel_rfl
@[simp] theorem z5 : zeroA Try.prog 5 = some (.int .u8 0) := by kernel_rfl
@[simp] theorem s5 : sizeA Try.prog 5 = some 1 := by kernel_rfl
@[simp] theorem z6 : zeroA Try.prog 6 = some (.int .u8 0) := by kernel_rfl
@[simp] theorem s6 : sizeA Try.prog 6 = some 1 := by kernel_rfl
@[simp] theorem z7 : zeroA Try.prog 7 = some (.agg [.int .i64 0, .int .i64 0, .bool false, .int .u8 0]) := by kernel_rfl
@[simp] theorem s7 : sizeA Try.prog 7 = some 4 := by kernel_rfl
@[simp] theorem z8 : zeroA Try.prog 8 = some (.agg [.int .i64 0, .int .i64 0, .bool false, .int .u8 0]) := by kernel_rfl
@[simp] theorem s8 : sizeA Try.prog 8 = some 4 := by kernel_rfl
@[simp] theorem z9 : zeroA Try.prog 9 = some (.str ⟨#[]⟩) := by kernel_rfl
@[simp] theorem s9 : sizeA Try.prog 9 = some 1 := by kernel_rfl
@[simp] theorem z10 : zeroA Try.prog 10 = some (.str ⟨#[]⟩) := by kernel_rfl
@[simp] theorem s10 : sizeA Try.prog 10 = some 1 := by kernel_rfl
@[simp] theorem z11 : zeroA Try.prog 11 = some (.str ⟨#[]⟩) := by kernel_rfl
@[simp] theorem s11 : sizeA Try.prog 11 = some 1 := by kernel_rfl
@[simp] theorem z12 : zeroA Try.prog 12 = some (.int .u64 0) := by kernel_rfl
@[simp] theorem s12 : sizeA Try.prog 12 = some 1 := by kernel_rfl
@[simp] theorem z13 : zeroA Try.prog 13 = some (.agg [.str ⟨#[]⟩, .int .u64 0]) := by kernel_rfl
@[simp] theorem s13 : sizeA Try.prog 13 = some 2 := by kernel_rfl
@[simp] theorem z14 : zeroA Try.prog 14 = some (.agg [.str ⟨#[]⟩, .int .u64 0]) := by kernel_rfl
@[simp] theorem s14 : sizeA Try.prog 14 = some 2 := by kernel_rfl
@[simp] theorem z15 : zeroA Try.prog 15 = some (.nilp) := by kernel_rfl
@[simp] theorem s15 : sizeA Try.prog 15 = some 1 := by kernel_rfl
@[simp] theorem z16 : zeroA Try.prog 16 = some (.nilp) := by kernel_rfl
@[simp] theorem s16 : sizeA Try.prog 16 = some 1 := by kernel_rfl
@[simp] theorem z17 : zeroA Try.prog 17 = some (.nilp) := by kernel_rfl
@[simp] theorem s17 : sizeA Try.prog 17 = some 1 := by kernel_rfl
@[simp] theorem z18 : zeroA Try.prog 18 = some (.agg [.nilp]) := by kernel_rfl
@[simp] theorem s18 : sizeA Try.prog 18 = some 1 := by kernel_rfl
@[simp] theorem z19 : zeroA Try.prog 19 = some (.agg [.nilp]) := by kernel_rfl
@[simp] theorem s19 : sizeA Try.prog 19 = some 1 := by kernel_rfl
@[simp] theorem z20 : zeroA Try.prog 20 = some (.nili) := by kernel_rfl
@[simp] theorem s20 : sizeA Try.prog 20 = some 1 := by kernel_rfl
@[simp] theorem z21 : zeroA Try.prog 21 = some (.int .i32 0) := by kernel_rfl
@[simp] theorem s21 : sizeA Try.prog 21 = some 1 := by kernel_rfl
@[simp] theorem z22 : zeroA Try.prog 22 = some (.nils) := by kernel_rfl
@[simp] theorem s22 : sizeA Try.prog 22 = some 1 := by kernel_rfl
@[simp] theorem z23 : zeroA Try.prog 23 = some (.nilp) := by kernel_rfl
@[simp] theorem s23 : sizeA Try.prog 23 = some 1 := by kernel_rfl
@[simp] theorem z24 : zeroA Try.prog 24 = some (.nilf) := by kernel_rfl
@[simp] theorem s24 : sizeA Try.prog 24 = some 1 := by kernel_rfl
@[simp] theorem z25 : zeroA Try.prog 25 = some (.int .u64 0) := by kernel_rfl
@[simp] theorem s25 : sizeA Try.prog 25 = some 1 := by kernel_rfl
@[simp] theorem z26 : zeroA Try.prog 26 = some (.agg [.int .u64 0, .int .i64 0]) := by kernel_rfl
@[simp] theorem s26 : sizeA Try.prog 26 = some 2 := by kernel_rfl
@[simp] theorem z27 : zeroA Try.prog 27 = some (.agg [.int .u64 0, .int .i64 0]) := by kernel_rfl
@[simp] theorem s27 : sizeA Try.prog 27 = some 2 := by kernel_rfl
@[simp] theorem z28 : zeroA Try.prog 28 = some (.int .i64 0) := by kernel_rfl
@[simp] theorem s28 : sizeA Try.prog 28 = some 1 := by kernel_rfl
@[simp] theorem z30 : zeroA Try.prog 30 = some (.nilf) := by kernel_rfl
@[simp] theorem s30 : sizeA Try.prog 30 = some 1 := by kernel_rfl
@[simp] theorem z31 : zeroA Try.prog 31 = some (.nilf) := by kernel_rfl
@[simp] theorem s31 : sizeA Try.prog 31 = some 1 := by kernel_rfl
@[simp] theorem z32 : zeroA Try.prog 32 = some (.nils) := by kernel_rfl
@[simp] theorem s32 : sizeA Try.prog 32 = some 1 := by kernel_rfl
@[simp] theorem z34 : zeroA Try.prog 34 = some (.nilf) := by kernel_rfl
@[simp] theorem s34 : sizeA Try.prog 34 = some 1 := by kernel_rfl
@[simp] theorem z35 : zeroA Try.prog 35 = some (.nilf) := by kernel_rfl
@[simp] theorem s35 : sizeA Try.prog 35 = some 1 := by kernel_rfl
@[simp] theorem z36 : zeroA Try.prog 36 = some (.nilp) := by kernel_rfl
@[simp] theorem s36 : sizeA Try.prog 36 = some 1 := by kernel_rfl
@[simp] theorem z37 : zeroA Try.prog 37 = some (.agg [.int .u64 0, .int .i64 0]) := by kernel_rfl
@[simp] theorem s37 : sizeA Try.prog 37 = some 2 := by kernel_rfl
@[simp] theorem z38 : zeroA Try.prog 38 = some (.nils) := by kernel_rfl
@[simp] theorem s38 : sizeA Try.prog 38 = some 1 := by kernel_rfl
@[simp] theorem z39 : zeroA Try.prog 39 = some (.nils) := by kernel_rfl
@[simp] theorem s39 : sizeA Try.prog 39 = some 1 := by kernel_rfl
@[simp] theorem z40 : zeroA Try.prog 40 = some (.nils) := by kernel_rfl
@[simp] theorem s40 : sizeA Try.prog 40 = some 1 := by kernel_rfl
@[simp] theorem z41 : zeroA Try.prog 41 = some (.agg [.int .i64 0, .int .i64 0, .int .i64 0, .int .u64 0, .int .i64 0, .int .i64 0, .nils, .nils, .nils, .int .i64 0]) := by kernel_rfl
@[simp] theorem s41 : sizeA Try.prog 41 = some 10 := by kernel_rfl
@[simp] theorem z42 : zeroA Try.prog 42 = some (.agg [.int .i64 0, .int .i64 0, .int .i64 0, .int .u64 0, .int .i64 0, .int .i64 0, .nils, .nils, .nils, .int .i64 0]) := by kernel_rfl
@[simp] theorem s42 : sizeA Try.prog 42 = some 10 := by kernel_rfl
@[simp] theorem z43 : zeroA Try.prog 43 = some (.nilf) := by kernel_rfl
@[simp] theorem s43 : sizeA Try.prog 43 = some 1 := by kernel_rfl
@[simp] theorem z44 : zeroA Try.prog 44 = some (.nilf) := by kernel_rfl
@[simp] theorem s44 : sizeA Try.prog 44 = some 1 := by kernel_rfl
@[simp] theorem z45 : zeroA Try.prog 45 = some (.nilf) := by kernel_rfl
@[simp] theorem s45 : sizeA Try.prog 45 = some 1 := by kernel_rfl
@[simp] theorem z46 : zeroA Try.prog 46 = some (.agg [.int .i64 0, .str ⟨#[]⟩]) := by kernel_rfl
@[simp] theorem s46 : sizeA Try.prog 46 = some 2 := by kernel_rfl
@[simp] theorem z47 : zeroA Try.prog 47 = some (.agg [.int .i64 0, .str ⟨#[]⟩]) := by kernel_rfl
@[simp] theorem s47 : sizeA Try.prog 47 = some 2 := by kernel_rfl
@[simp] theorem z48 : zeroA Try.prog 48 = some (.agg [.int .i64 0, .int .u64 0, .int .i64 0, .str ⟨#[]⟩]) := by kernel_rfl
@[simp] theorem s48 : sizeA Try.prog 48 = some 4 := by kernel_rfl
@[simp] theorem z49 : zeroA Try.prog 49 = some (.agg [.int .i64 0, .int .u64 0, .int .i64 0, .str ⟨#[]⟩]) := by kernel_rfl
@[simp] theorem s49 : sizeA Try.prog 49 = some 4 := by kernel_rfl
@[simp] theorem z50 : zeroA Try.prog 50 = some (.nilf) := by kernel_rfl
@[simp] theorem s50 : sizeA Try.prog 50 = some 1 := by kernel_rfl
@[simp] theorem z51 : zeroA Try.prog 51 = some (.nils) := by kernel_rfl
@[simp] theorem s51 : sizeA Try.prog 51 = some 1 := by kernel_rfl
@[simp] theorem z52 : zeroA Try.prog 52 = some (.nilf) := by kernel_rfl
@[simp] theorem s52 : sizeA Try.prog 52 = some 1 := by kernel_rfl
@[simp] theorem z53 : zeroA Try.prog 53 = some (.agg [.int .i64 0, .int .u64 0, .int .i64 0, .int .i64 0, .int .i64 0, .nils, .str ⟨#[]⟩]) := by kernel_rfl
@[simp] theorem s53 : sizeA Try.prog 53 = some 7 := by kernel_rfl
@[simp] theorem z54 : zeroA Try.prog 54 = some (.agg [.int .i64 0, .int .u64 0, .int .i64 0, .int .i64 0, .int .i64 0, .nils, .str ⟨#[]⟩]) := by kernel_rfl
@[simp] theorem s54 : sizeA Try.prog 54 = some 7 := by kernel_rfl
@[simp] theorem z55 : zeroA Try.prog 55 = some (.nilf) := by kernel_rfl
@[simp] theorem s55 : sizeA Try.prog 55 = some 1 := by kernel_rfl
@[simp] theorem z56 : zeroA Try.prog 56 = some (.nilf) := by kernel_rfl
@[simp] theorem s56 : sizeA Try.prog 56 = some 1 := by kernel_rfl
@[simp] theorem z57 : zeroA Try.prog 57 = some (.nilf) := by kernel_rfl
@[simp] theorem s57 : sizeA Try.prog 57 = some 1 := by kernel_rfl
@[simp] theorem z58 : zeroA Try.prog 58 = some (.nilf) := by kernel_rfl
@[simp] theorem s58 : sizeA Try.prog 58 = some 1 := by kernel_rfl
@[simp] theorem z59 : zeroA Try.prog 59 = some (.nils) := by kernel_rfl
@[simp] theorem s59 : sizeA Try.prog 59 = some 1 := by kernel_rfl
@[simp] theorem z60 : zeroA Try.prog 60 = some (.nilp) := by kernel_rfl
@[simp] theorem s60 : sizeA Try.prog 60 = some 1 := by kernel_rfl
@[simp] theorem z61 : zeroA Try.prog 61 = some (.nilm) := by kernel_rfl
@[simp] theorem s61 : sizeA Try.prog 61 = some 1 := by kernel_rfl
@[simp] theorem z62 : zeroA Try.prog 62 = some (.nils) := by kernel_rfl
@[simp] theorem s62 : sizeA Try.prog 62 = some 1 := by kernel_rfl
@[simp] theorem z63 : zeroA Try.prog 63 = some (.nils) := by kernel_rfl
@[simp] theorem s63 : sizeA Try.prog 63 = some 1 := by kernel_rfl
@[simp] theorem z64 : zeroA Try.prog 64 = some (.nils) := by kernel_rfl
@[simp] theorem s64 : sizeA Try.prog 64 = some 1 := by kernel_rfl
@[simp] theorem z65 : zeroA Try.prog 65 = some (.nils) := by kernel_rfl
@[simp] theorem s65 : sizeA Try.prog 65 = some 1 := by kernel_rfl
@[simp] theorem z66 : zeroA Try.prog 66 = some (.agg [.nils, .nils, .nils, .nils, .nilm]) := by kernel_rfl
@[simp] theorem s66 : sizeA Try.prog 66 = some 5 := by kernel_rfl
@[simp] theorem z67 : zeroA Try.prog 67 = some (.agg [.nils, .nils, .nils, .nils, .nilm]) := by kernel_rfl
@[simp] theorem s67 : sizeA Try.prog 67 = some 5 := by kernel_rfl
@[simp] theorem z68 : zeroA Try.prog 68 = some (.nilp) := by kernel_rfl
@[simp] theorem s68 : sizeA Try.prog 68 = some 1 := by kernel_rfl
@[simp] theorem z69 : zeroA Try.prog 69 = some (.nilf) := by kernel_rfl
@[simp] theorem s69 : sizeA Try.prog 69 = some 1 := by kernel_rfl
@[simp] theorem z70 : zeroA Try.prog 70 = some (.agg [.int .i64 0, .int .i64 0, .int .i64 0, .int .i64 0, .str ⟨#[]⟩]) := by kernel_rfl
@[simp] theorem s70 : sizeA Try.prog 70 = some 5 := by kernel_rfl
@[simp] theorem z71 : zeroA Try.prog 71 = some (.agg [.int .i64 0, .int .i64 0, .int .i64 0, .int .i64 0, .str ⟨#[]⟩]) := by kernel_rfl
@[simp] theorem s71 : sizeA Try.prog 71 = some 5 := by kernel_rfl
@[simp] theorem z72 : zeroA Try.prog 72 = some (.nilf) := by kernel_rfl
@[simp] theorem s72 : sizeA Try.prog 72 = some 1 := by kernel_rfl
@[simp] theorem z73 : zeroA Try.prog 73 = some (.nilf) := by kernel_rfl
@[simp] theorem s73 : sizeA Try.prog 73 = some 1 := by kernel_rfl
@[simp] theorem z74 : zeroA Try.prog 74 = some (.int .u8 0) := by kernel_rfl
@[simp] theorem s74 : sizeA Try.prog 74 = some 1 := by kernel_rfl
@[simp] theorem z75 : zeroA Try.prog 75 = some (.nilm) := by kernel_rfl
@[simp] theorem s75 : sizeA Try.prog 75 = some 1 := by kernel_rfl
@[simp] theorem z76 : zeroA Try.prog 76 = some (.nilm) := by kernel_rfl
@[simp] theorem s76 : sizeA Try.prog 76 = some 1 := by kernel_rfl
@[simp] theorem z77 : zeroA Try.prog 77 = some (.agg [.int .i64 0, .int .i64 0, .int .i64 0, .int .u64 0, .int .i64 0, .int .i64 0, .int .u8 0, .nilm, .nilm, .int .i64 0]) := by kernel_rfl
@[simp] theorem s77 : sizeA Try.prog 77 = some 10 := by kernel_rfl
@[simp] theorem z78 : zeroA Try.prog 78 = some (.agg [.int .i64 0, .int .i64 0, .int .i64 0, .int .u64 0, .int .i64 0, .int .i64 0, .int .u8 0, .nilm, .nilm, .int .i64 0]) := by kernel_rfl
@[simp] theorem s78 : sizeA Try.prog 78 = some 10 := by kernel_rfl
@[simp] theorem z80 : zeroA Try.prog 80 = some (.nilf) := by kernel_rfl
@[simp] theorem s80 : sizeA Try.prog 80 = some 1 := by kernel_rfl
@[simp] theorem z82 : zeroA Try.prog 82 = some (.nilf) := by kernel_rfl
@[simp] theorem s82 : sizeA Try.prog 82 = some 1 := by kernel_rfl
@[simp] theorem z83 : zeroA Try.prog 83 = some (.agg [.int .i64 0, .int .u64 0, .int .i64 0, .str ⟨#[]⟩]) := by kernel_rfl
@[simp] theorem s83 : sizeA Try.prog 83 = some 4 := by kernel_rfl
@[simp] theorem z84 : zeroA Try.prog 84 = some (.agg [.int .i64 0, .int .u64 0, .int .i64 0, .str ⟨#[]⟩]) := by kernel_rfl
@[simp] theorem s84 : sizeA Try.prog 84 = some 4 := by kernel_rfl
@[simp] theorem z85 : zeroA Try.prog 85 = some (.nilf) := by kernel_rfl
@[simp] theorem s85 : sizeA Try.prog 85 = some 1 := by kernel_rfl
@[simp] theorem z86 : zeroA Try.prog 86 = some (.nilf) := by kernel_rfl
@[simp] theorem s86 : sizeA Try.prog 86 = some 1 := by kernel_rfl
@[simp] theorem z87 : zeroA Try.prog 87 = some (.nilf) := by kernel_rfl
@[simp] theorem s87 : sizeA Try.prog 87 = some 1 := by kernel_rfl
@[simp] theorem z89 : zeroA Try.prog 89 = some (.nilf) := by kernel_rfl
@[simp] theorem s89 : sizeA Try.prog 89 = some 1 := by kernel_rfl
@[simp] theorem z90 : zeroA Try.prog 90 = some (.agg [.int .i64 0, .nils]) := by kernel_rfl
@[simp] theorem s90 : sizeA Try.prog 90 = some 2 := by kernel_rfl
@[simp] theorem z91 : zeroA Try.prog 91 = some (.agg [.int .i64 0, .nils]) := by kernel_rfl
@[simp] theorem s91 : sizeA Try.prog 91 = some 2 := by kernel_rfl
@[simp] theorem z92 : zeroA Try.prog 92 = some (.nilf) := by kernel_rfl
@[simp] theorem s92 : sizeA Try.prog 92 = some 1 := by kernel_rfl
@[simp] theorem z93 : zeroA Try.prog 93 = some (.nils) := by kernel_rfl
@[simp] theorem s93 : sizeA Try.prog 93 = some 1 := by kernel_rfl
@[simp] theorem z94 : zeroA Try.prog 94 = some (.nilf) := by kernel_rfl
@[simp] theorem s94 : sizeA Try.prog 94 = some 1 := by kernel_rfl
@[simp] theorem z95 : zeroA Try.prog 95 = some (.nilf) := by kernel_rfl
@[simp] theorem s95 : sizeA Try.prog 95 = some 1 := by kernel_rfl
@[simp] theorem z96 : zeroA Try.prog 96 = some (.nilf) := by kernel_rfl
@[simp] theorem s96 : sizeA Try.prog 96 = some 1 := by kernel_rfl
@[simp] theorem z97 : zeroA Try.prog 97 = some (.nilf) := by kernel_rfl
@[simp] theorem s97 : sizeA Try.prog 97 = some 1 := by kernel_rfl
@[simp] theorem z98 : zeroA Try.prog 98 = some (.nilp) := by kernel_rfl
@[simp] theorem s98 : sizeA Try.prog 98 = some 1 := by kernel_rfl
@[simp] theorem z99 : zeroA Try.prog 99 = some (.agg [.str ⟨#[]⟩, .int .u8 0]) := by kernel_rfl
@[simp] theorem s99 : sizeA Try.prog 99 = some 2 := by kernel_rfl
@[simp] theorem z100 : zeroA Try.prog 100 = some (.agg [.str ⟨#[]⟩, .int .u8 0]) := by kernel_rfl
@[simp] theorem s100 : sizeA Try.prog 100 = some 2 := by kernel_rfl
@[simp] theorem z101 : zeroA Try.prog 101 = some (.nilf) := by kernel_rfl
@[simp] theorem s101 : sizeA Try.prog 101 = some 1 := by kernel_rfl
@[simp] theorem z103 : zeroA Try.prog 103 = some (.nilf) := by kernel_rfl
@[simp] theorem s103 : sizeA Try.prog 103 = some 1 := by kernel_rfl
@[simp] theorem z104 : zeroA Try.prog 104 = some (.nilf) := by kernel_rfl
@[simp] theorem s104 : sizeA Try.prog 104 = some 1 := by kernel_rfl
@[simp] theorem z105 : zeroA Try.prog 105 = some (.agg [.int .u64 0, .int .i64 0, .nilm]) := by kernel_rfl
@[simp] theorem s105 : sizeA Try.prog 105 = some 3 := by kernel_rfl
@[simp] theorem z106 : zeroA Try.prog 106 = some (.agg [.int .u64 0, .int .i64 0, .nilm]) := by kernel_rfl
@[simp] theorem s106 : sizeA Try.prog 106 = some 3 := by kernel_rfl
@[simp] theorem z107 : zeroA Try.prog 107 = some (.nilf) := by kernel_rfl
@[simp] theorem s107 : sizeA Try.prog 107 = some 1 := by kernel_rfl
@[simp] theorem z109 : zeroA Try.prog 109 = some (.nilf) := by kernel_rfl
@[simp] theorem s109 : sizeA Try.prog 109 = some 1 := by kernel_rfl
@[simp] theorem z110 : zeroA Try.prog 110 = some (.agg [.int .i64 0, .int .u64 0, .int .i64 0, .nils]) := by kernel_rfl
@[simp] theorem s110 : sizeA Try.prog 110 = some 4 := by kernel_rfl
@[simp] theorem z111 : zeroA Try.prog 111 = some (.agg [.int .i64 0, .int .u64 0, .int .i64 0, .nils]) := by kernel_rfl
@[simp] theorem s111 : sizeA Try.prog 111 = some 4 := by kernel_rfl
@[simp] theorem z112 : zeroA Try.prog 112 = some (.nilf) := by kernel_rfl
@[simp] theorem s112 : sizeA Try.prog 112 = some 1 := by kernel_rfl
@[simp] theorem z113 : zeroA Try.prog 113 = some (.agg [.int .i64 0, .int .u64 0, .int .i64 0, .int .i64 0]) := by kernel_rfl
@[simp] theorem s113 : sizeA Try.prog 113 = some 4 := by kernel_rfl
@[simp] theorem z114 : zeroA Try.prog 114 = some (.agg [.int .i64 0, .int .u64 0, .int .i64 0, .int .i64 0]) := by kernel_rfl
@[simp] theorem s114 : sizeA Try.prog 114 = some 4 := by kernel_rfl
@[simp] theorem z115 : zeroA Try.prog 115 = some (.nilf) := by kernel_rfl
@[simp] theorem s115 : sizeA Try.prog 115 = some 1 := by kernel_rfl
@[simp] theorem z116 : zeroA Try.prog 116 = some (.nilf) := by kernel_rfl
@[simp] theorem s116 : sizeA Try.prog 116 = some 1 := by kernel_rfl
@[simp] theorem z117 : zeroA Try.prog 117 = some (.nilf) := by kernel_rfl
@[simp] theorem s117 : sizeA Try.prog 117 = some 1 := by kernel_rfl
@[simp] theorem z118 : zeroA Try.prog 118 = some (.nilf) := by kernel_rfl
@[simp] theorem s118 : sizeA Try.prog 118 = some 1 := by kernel_rfl
@[simp] theorem z119 : zeroA Try.prog 119 = some (.agg [.int .i64 0, .int .i64 0]) := by kernel_rfl
@[simp] theorem s119 : sizeA Try.prog 119 = some 2 := by kernel_rfl
@[simp] theorem z120 : zeroA Try.prog 120 = some (.agg [.int .i64 0, .int .i64 0]) := by kernel_rfl
@[simp] theorem s120 : sizeA Try.prog 120 = some 2 := by kernel_rfl
@[simp] theorem z121 : zeroA Try.prog 121 = some (.nilf) := by kernel_rfl
@[simp] theorem s121 : sizeA Try.prog 121 = some 1 := by kernel_rfl
@[simp] theorem z122 : zeroA Try.prog 122 = some (.nilf) := by kernel_rfl
@[simp] theorem s122 : sizeA Try.prog 122 = some 1 := by kernel_rfl
@[simp] theorem z123 : zeroA Try.prog 123 = some (.nilf) := by kernel_rfl
@[simp] theorem s123 : sizeA Try.prog 123 = some 1 := by kernel_rfl
@[simp] theorem z124 : zeroA Try.prog 124 = some (.nilf) := by kernel_rfl
@[simp] theorem s124 : sizeA Try.prog 124 = some 1 := by kernel_rfl
@[simp] theorem z125 : zeroA Try.prog 125 = some (.nilf) := by kernel_rfl
@[simp] theorem s125 : sizeA Try.prog 125 = some 1 := by kernel_rfl
@[simp] theorem z126 : zeroA Try.prog 126 = some (.int .u64 0) := by kernel_rfl
@[simp] theorem s126 : sizeA Try.prog 126 = some 1 := by kernel_rfl
@[simp] theorem z127 : zeroA Try.prog 127 = some (.nilf) := by kernel_rfl
@[simp] theorem s127 : sizeA Try.prog 127 = some 1 := by kernel_rfl
@[simp] theorem z128 : zeroA Try.prog 128 = some (.nilf) := by kernel_rfl
@[simp] theorem s128 : sizeA Try.prog 128 = some 1 := by kernel_rfl
@[simp] theorem z129 : zeroA Try.prog 129 = some (.int .i64 0) := by kernel_rfl
@[simp] theorem s129 : sizeA Try.prog 129 = some 1 := by kernel_rfl
@[simp] theorem z131 : zeroA Try.prog 131 = some (.nilf) := by kernel_rfl
@[simp] theorem s131 : sizeA Try.prog 131 = some 1 := by kernel_rfl
@[simp] theorem z132 : zeroA Try.prog 132 = some (.nilf) := by kernel_rfl
@[simp] theorem s132 : sizeA Try.prog 132 = some 1 := by kernel_rfl
@[simp] theorem z133 : zeroA Try.prog 133 = some (.nilf) := by kernel_rfl
@[simp] theorem s133 : sizeA Try.prog 133 = some 1 := by kernel_rfl
@[simp] theorem z134 : zeroA Try.prog 134 = some (.nilf) := by kernel_rfl
@[simp] theorem s134 : sizeA Try.prog 134 = some 1 := by kernel_rfl
@[simp] theorem z136 : zeroA Try.prog 136 = some (.nilf) := by kernel_rfl
@[simp] theorem s136 : sizeA Try.prog 136 = some 1 := by kernel_rfl
@[simp] theorem z137 : zeroA Try.prog 137 = some (.nilf) := by kernel_rfl
@[simp] theorem s137 : sizeA Try.prog 137 = some 1 := by kernel_rfl
@[simp] theorem z138 : zeroA Try.prog 138 = some (.int .u32 0) := by kernel_rfl
@[simp] theorem s138 : sizeA Try.prog 138 = some 1 := by kernel_rfl
@[simp] theorem z139 : zeroA Try.prog 139 = some (.nilf) := by kernel_rfl
@[simp] theorem s139 : sizeA Try.prog 139 = some 1 := by kernel_rfl
@[simp] theorem z140 : zeroA Try.prog 140 = some (.int .u64 0) := by kernel_rfl
@[simp] theorem s140 : sizeA Try.prog 140 = some 1 := by kernel_rfl
@[simp] theorem z141 : zeroA Try.prog 141 = some (.nilf) := by kernel_rfl
@[simp] theorem s141 : sizeA Try.prog 141 = some 1 := by kernel_rfl
@[simp] theorem z142 : zeroA Try.prog 142 = some (.nilf) := by kernel_rfl
@[simp] theorem s142 : sizeA Try.prog 142 = some 1 := by kernel_rfl
@[simp] theorem z143 : zeroA Try.prog 143 = some (.nilf) := by kernel_rfl
@[simp] theorem s143 : sizeA Try.prog 143 = some 1 := by kernel_rfl
@[simp] theorem z144 : zeroA Try.prog 144 = some (.nilp) := by kernel_rfl
@[simp] theorem s144 : sizeA Try.prog 144 = some 1 := by kernel_rfl
@[simp] theorem z145 : zeroA Try.prog 145 = some (.nilf) := by kernel_rfl
@[simp] theorem s145 : sizeA Try.prog 145 = some 1 := by kernel_rfl
@[simp] theorem z146 : zeroA Try.prog 146 = some (.nilp) := by kernel_rfl
@[simp] theorem s146 : sizeA Try.prog 146 = some 1 := by kernel_rfl
@[simp] theorem z148 : zeroA Try.prog 148 = some (.nilf) := by kernel_rfl
@[simp] theorem s148 : sizeA Try.prog 148 = some 1 := by kernel_rfl
@[simp] theorem z149 : zeroA Try.prog 149 = some (.nilf) := by kernel_rfl
@[simp] theorem s149 : sizeA Try.prog 149 = some 1 := by kernel_rfl
@[simp] theorem z150 : zeroA Try.prog 150 = some (.agg [.nilp, .nilp, .nilp, .str ⟨#[]⟩]) := by kernel_rfl
@[simp] theorem s150 : sizeA Try.prog 150 = some 4 := by kernel_rfl
@[simp] theorem z151 : zeroA Try.prog 151 = some (.agg [.nilp, .nilp, .nilp, .str ⟨#[]⟩]) := by kernel_rfl
@[simp] theorem s151 : sizeA Try.prog 151 = some 4 := by kernel_rfl
@[simp] theorem z152 : zeroA Try.prog 152 = some (.agg []) := by kernel_rfl
@[simp] theorem s152 : sizeA Try.prog 152 = some 0 := by kernel_rfl
@[simp] theorem z153 : zeroA Try.prog 153 = some (.agg []) := by kernel_rfl
@[simp] theorem s153 : sizeA Try.prog 153 = some 0 := by kernel_rfl
@[simp] theorem z154 : zeroA Try.prog 154 = some (.agg []) := by kernel_rfl
@[simp] theorem s154 : sizeA Try.prog 154 = some 0 := by kernel_rfl
@[simp] theorem z155 : zeroA Try.prog 155 = some (.int .u8 0) := by kernel_rfl
@[simp] theorem s155 : sizeA Try.prog 155 = some 1 := by kernel_rfl
@[simp] theorem z156 : zeroA Try.prog 156 = some (.int .u8 0) := by kernel_rfl
@[simp] theorem s156 : sizeA Try.prog 156 = some 1 := by kernel_rfl
@[simp] theorem z157 : zeroA Try.prog 157 = some (.nilf) := by kernel_rfl
@[simp] theorem s157 : sizeA Try.prog 157 = some 1 := by kernel_rfl
@[simp] theorem z158 : zeroA Try.prog 158 = some (.nilp) := by kernel_rfl
@[simp] theorem s158 : sizeA Try.prog 158 = some 1 := by kernel_rfl
@[simp] theorem z159 : zeroA Try.prog 159 = some (.int .i32 0) := by kernel_rfl
@[simp] theorem s159 : sizeA Try.prog 159 = some 1 := by kernel_rfl
@[simp] theorem z160 : zeroA Try.prog 160 = some (.int .i32 0) := by kernel_rfl
@[simp] theorem s160 : sizeA Try.prog 160 = some 1 := by kernel_rfl
@[simp] theorem z161 : zeroA Try.prog 161 = some (.agg [.int .u64 0, .int .u64 0, .int .u32 0, .int .u8 0, .int .u8 0, .int .u8 0, .int .u8 0, .nilf, .nilp, .int .i32 0, .int .i32 0]) := by kernel_rfl
@[simp] theorem s161 : sizeA Try.prog 161 = some 11 := by kernel_rfl
@[simp] theorem z162 : zeroA Try.prog 162 = some (.agg [.int .u64 0, .int .u64 0, .int .u32 0, .int .u8 0, .int .u8 0, .int .u8 0, .int .u8 0, .nilf, .nilp, .int .i32 0, .int .i32 0]) := by kernel_rfl
@[simp] theorem s162 : sizeA Try.prog 162 = some 11 := by kernel_rfl
@[simp] theorem z163 : zeroA Try.prog 163 = some (.nilp) := by kernel_rfl
@[simp] theorem s163 : sizeA Try.prog 163 = some 1 := by kernel_rfl
end
attribute [simp] Try.underlying1 Try.underlying2 Try.underlying3 Try.underlying4 Try.underlying5 Try.underlying6 Try.underlying7 Try.underlying8 Try.underlying9 Try.underlying10 Try.underlying11 Try.underlying12 Try.underlying13 Try.underlying14 Try.underlying15 Try.underlying16 Try.underlying17 Try.underlying18 Try.underlying19 Try.underlying20 Try.underlying21 Try.underlying22 Try.underlying23 Try.underlying24 Try.underlying25 Try.underlying26 Try.underlying27 Try.underlying28 Try.underlying30 Try.underlying31 Try.underlying32 Try.underlying34 Try.underlying35 Try.underlying36 Try.underlying37 Try.underlying38 Try.underlying39 Try.underlying40 Try.underlying41 Try.underlying42 Try.underlying43 Try.underlying44 Try.underlying45 Try.underlying46 Try.underlying47 Try.underlying48 Try.underlying49 Try.underlying50 Try.underlying51 Try.underlying52 Try.underlying53 Try.underlying54 Try.underlying55 Try.underlying56 Try.underlying57 Try.underlying58 Try.underlying59 Try.underlying60 Try.underlying61 Try.underlying62 Try.underlying63 Try.underlying64 Try.underlying65 Try.underlying66 Try.underlying67 Try.underlying68 Try.underlying69 Try.underlying70 Try.underlying71 Try.underlying72 Try.underlying73 Try.underlying74 Try.underlying75 Try.underlying76 Try.underlying77 Try.underlying78 Try.underlying80 Try.underlying82 Try.underlying83 Try.underlying84 Try.underlying85 Try.underlying86 Try.underlying87 Try.underlying89 Try.underlying90 Try.underlying91 Try.underlying92 Try.underlying93 Try.underlying94 Try.underlying95 Try.underlying96 Try.underlying97 Try.underlying98 Try.underlying99 Try.underlying100 Try.underlying101 Try.underlying103 Try.underlying104 Try.underlying105 Try.underlying106 Try.underlying107 Try.underlying109 Try.underlying110 Try.underlying111 Try.underlying112 Try.underlying113 Try.underlying114 Try.underlying115 Try.underlying116 Try.underlying117 Try.underlying118 Try.underlying119 Try.underlying120 Try.underlying121 Try.underlying122 Try.underlying123 Try.underlying124 Try.underlying125 Try.underlying126 Try.underlying127 Try.underlying128 Try.underlying129 Try.underlying131 Try.underlying132 Try.underlying133 Try.underlying134 Try.underlying136 Try.underlying137 Try.underlying138 Try.underlying139 Try.underlying140 Try.underlying141 Try.underlying142 Try.underlying143 Try.underlying144 Try.underlying145 Try.underlying146 Try.underlying148 Try.underlying149 Try.underlying150 Try.underlying151 Try.underlying152 Try.underlying153 Try.underlying154 Try.underlying155 Try.underlying156 Try.underlying157 Try.underlying158 Try.underlying159 Try.underlying160 Try.underlying161 Try.underlying162 Try.underlying163