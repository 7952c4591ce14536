/- It is proved that the law's code gives true, for any transaction, key and number. -/
import Derived.Test.YteanbldkbfdniaaGreatSd
open Go Go.Abs Go.Proofs
set_option maxRecDepth 100000
set_option maxHeartbeats 4000000
set_option linter.unusedSimpArgs false
set_option linter.unusedVariables false
noncomputable def p0 : Code := sub [.l] (bodyOf Tryz.f7)
noncomputable def p1 : Code := sub [.r, .l] (bodyOf Tryz.f7)
noncomputable def p2 : Code := sub [.r, .r, .l] (bodyOf Tryz.f7)
noncomputable def p3 : Code := sub [.r, .r, .r, .l] (bodyOf Tryz.f7)
noncomputable def p4 : Code := sub [.r, .r, .r, .r, .l] (bodyOf Tryz.f7)
noncomputable def p5 : Code := sub [.r, .r, .r, .r, .r, .l] (bodyOf Tryz.f7)
theorem body7 : Tryz.f7.body = some (p0.seq (p1.seq (p2.seq (p3.seq (p4.seq (p5.seq .ret)))))) := rfl
noncomputable def ops5 : List Oper := opsOf p5
theorem p5_eq : p5 = .region 5 ops5.toArray false := by kernel_rfl
def cx0 : Cx := { h := 0, ro := none, esc := [] }
noncomputable def A0 (n1 n2 n3 : Int) (bb : Bool) (x1 x2 : AV) (b1 : ByteArray) : Option (AExit × St) := execA Tryz.prog cx0 [] (callN Tryz.prog how 39) 39 (p0.seq (p1.seq (p2.seq (p3.seq p4)))) (frameA Tryz.f7 [.agg [.int .i64 n1, .int .u64 n2, .bool bb, x1, x2], .str b1, .int .i64 n3], ⟨[], []⟩)
theorem A0_ok (n1 n2 n3 : Int) (bb : Bool) (x1 x2 : AV) (b1 : ByteArray) : A0 n1 n2 n3 bb x1 x2 b1 = some (.normal, stOf (A0 n1 n2 n3 bb x1 x2 b1)) := by kernel_rfl
noncomputable def B0 (n1 n2 n3 : Int) (bb : Bool) (x1 x2 : AV) (b1 : ByteArray) : Option (Env × AS) := seqA Tryz.prog cx0 (callN Tryz.prog how 39) ops5 (ops5.take 6) (stOf (A0 n1 n2 n3 bb x1 x2 b1)).1 (stOf (A0 n1 n2 n3 bb x1 x2 b1)).2
theorem B0_ok (n1 n2 n3 : Int) (bb : Bool) (x1 x2 : AV) (b1 : ByteArray) : B0 n1 n2 n3 bb x1 x2 b1 = some (sOf (B0 n1 n2 n3 bb x1 x2 b1)) := by kernel_rfl
noncomputable def o6 : Oper := (ops5.drop 6).headD default
theorem ops5_split : ops5 = ops5.take 6 ++ ([o6] ++ ops5.drop 7) := by kernel_rfl
noncomputable def D0 (n1 n2 n3 : Int) (bb : Bool) (x1 x2 : AV) (b1 : ByteArray) (y1 y2 : AV) : Option (Env × AS) := seqA Tryz.prog cx0 (callN Tryz.prog how 39) ops5 (ops5.drop 7) (putE (sOf (B0 n1 n2 n3 bb x1 x2 b1)).1 (some 37) (.agg [.int .i64 n1, .int .u64 n2, .bool bb, y1, y2])) (sOf (B0 n1 n2 n3 bb x1 x2 b1)).2
theorem D0_ok (n1 n2 n3 : Int) (bb : Bool) (x1 x2 : AV) (b1 : ByteArray) (y1 y2 : AV) : D0 n1 n2 n3 bb x1 x2 b1 y1 y2 = some (sOf (D0 n1 n2 n3 bb x1 x2 b1 y1 y2)) := by kernel_rfl
noncomputable def E0 (n1 n2 n3 : Int) (bb : Bool) (x1 x2 : AV) (b1 : ByteArray) (y1 y2 : AV) : Option (AV × AS) := finishA Tryz.prog {} Tryz.f7 0 (some (.ret, sOf (D0 n1 n2 n3 bb x1 x2 b1 y1 y2)))
theorem E0_ok (n1 n2 n3 : Int) (bb : Bool) (x1 x2 : AV) (b1 : ByteArray) (y1 y2 : AV) : (E0 n1 n2 n3 bb x1 x2 b1 y1 y2).map (fun x => x.1) = some (.bool true) := by kernel_rfl
theorem E0_eq (n1 n2 n3 : Int) (bb : Bool) (x1 x2 : AV) (b1 : ByteArray) (y1 y2 : AV) : E0 n1 n2 n3 bb x1 x2 b1 y1 y2 = finishA Tryz.prog {} Tryz.f7 0 (some (.ret, sOf (D0 n1 n2 n3 bb x1 x2 b1 y1 y2))) := rfl
theorem A0_eq (n1 n2 n3 : Int) (bb : Bool) (x1 x2 : AV) (b1 : ByteArray) : execA Tryz.prog cx0 [] (callN Tryz.prog how 39) 39 (p0.seq (p1.seq (p2.seq (p3.seq p4)))) (frameA Tryz.f7 [.agg [.int .i64 n1, .int .u64 n2, .bool bb, x1, x2], .str b1, .int .i64 n3], ⟨[], []⟩) = A0 n1 n2 n3 bb x1 x2 b1 := rfl
theorem B0_eq (n1 n2 n3 : Int) (bb : Bool) (x1 x2 : AV) (b1 : ByteArray) : seqA Tryz.prog cx0 (callN Tryz.prog how 39) ops5 (ops5.take 6) (stOf (A0 n1 n2 n3 bb x1 x2 b1)).1 (stOf (A0 n1 n2 n3 bb x1 x2 b1)).2 = B0 n1 n2 n3 bb x1 x2 b1 := rfl
theorem D0_eq (n1 n2 n3 : Int) (bb : Bool) (x1 x2 : AV) (b1 : ByteArray) (y1 y2 : AV) : seqA Tryz.prog cx0 (callN Tryz.prog how 39) ops5 (ops5.drop 7) (putE (sOf (B0 n1 n2 n3 bb x1 x2 b1)).1 (some 37) (.agg [.int .i64 n1, .int .u64 n2, .bool bb, y1, y2])) (sOf (B0 n1 n2 n3 bb x1 x2 b1)).2 = D0 n1 n2 n3 bb x1 x2 b1 y1 y2 := rfl
theorem o6_op : o6.op = .call { callee := .value (.func 10), args := #[.tmp 36], argTypes := #[29] } := by kernel_rfl
theorem o6_dst : o6.dst = some 37 := by kernel_rfl
theorem o6_w (n1 n2 n3 : Int) (bb : Bool) (x1 x2 : AV) (b1 : ByteArray) : wantedA ops5 (sOf (B0 n1 n2 n3 bb x1 x2 b1)).1 o6 = true := by kernel_rfl
theorem o6_a (n1 n2 n3 : Int) (bb : Bool) (x1 x2 : AV) (b1 : ByteArray) : evs (sOf (B0 n1 n2 n3 bb x1 x2 b1)).1 [.tmp 36] = some [.agg [.int .i64 n1, .int .u64 n2, .bool bb, x1, x2]] := by kernel_rfl
attribute [local irreducible] sOf stOf A0 B0 D0 E0 ops5 o6 p0 p1 p2 p3 p4 p5
theorem f7_ok (n1 n2 n3 : Int) (bb : Bool) (x1 x2 : AV) (b1 : ByteArray) (r1 : isRd x1) (r2 : isWr x2) : ∃ σ', callW Tryz.prog how 7 [.agg [.int .i64 n1, .int .u64 n2, .bool bb, x1, x2], .str b1, .int .i64 n3] ⟨[], []⟩ none = some (.bool true, σ') := by
  have hs : Sub (callN Tryz.prog how 39) (callW Tryz.prog how) := fun f a σ ro r h => callW_of h
  have a := execW_ofA hs _ _ _ ((A0_eq n1 n2 n3 bb x1 x2 b1).trans (A0_ok n1 n2 n3 bb x1 x2 b1))
  have b := seqA_mono hs _ _ _ _ ((B0_eq n1 n2 n3 bb x1 x2 b1).trans (B0_ok n1 n2 n3 bb x1 x2 b1))
  have c := f25_ok (sOf (B0 n1 n2 n3 bb x1 x2 b1)).2.hp (sOf (B0 n1 n2 n3 bb x1 x2 b1)).2.st none n1 n2 bb x1 x2 (fun k hk => by cases hk) r1 r2
  have c' := seqA_call (P := Tryz.prog) (cx := cx0) (call := callW Tryz.prog how) o6_op (o6_w n1 n2 n3 bb x1 x2 b1) rfl (o6_a n1 n2 n3 bb x1 x2 b1) rfl c
  rw [o6_dst] at c'
  have d := seqA_mono hs _ _ _ _ ((D0_eq n1 n2 n3 bb x1 x2 b1 (cut10 2 x1) (cut10 3 x2)).trans (D0_ok n1 n2 n3 bb x1 x2 b1 (cut10 2 x1) (cut10 3 x2)))
  obtain ⟨⟨v, σ'⟩, e1, e2⟩ := Option.map_eq_some_iff.1 (E0_ok n1 n2 n3 bb x1 x2 b1 (cut10 2 x1) (cut10 3 x2))
  cases e2
  refine ⟨σ', callW_body (fl := {}) rfl Tryz.func7 body7 ?_⟩
  rw [← e1]
  have h5 : seqA Tryz.prog cx0 (callW Tryz.prog how) ops5 ops5 (stOf (A0 n1 n2 n3 bb x1 x2 b1)).1 (stOf (A0 n1 n2 n3 bb x1 x2 b1)).2 = some (sOf (D0 n1 n2 n3 bb x1 x2 b1 (cut10 2 x1) (cut10 3 x2))) := by
    conv => lhs; arg 5; rw [ops5_split]
    exact (seqA_append b).trans ((seqA_append c').trans d)
  have h6 := execW_plain (tails := []) (id := 5) (ops := ops5.toArray) h5
  rw [← p5_eq] at h6
  have h7 := execW_seq_of (b := p5.seq .ret) a (execW_seq_of h6 rfl)
  rw [E0_eq]
  refine congrArg (finishA Tryz.prog {} Tryz.f7 0) ?_
  have as5 : ∀ (a b c d e r : Code) (st : St), execW Tryz.prog cx0 [] (callW Tryz.prog how) (a.seq (b.seq (c.seq (d.seq (e.seq r))))) st = execW Tryz.prog cx0 [] (callW Tryz.prog how) ((a.seq (b.seq (c.seq (d.seq e)))).seq r) st := by
    intro a b c d e r st
    rw [execW_assoc a]
    refine execW_congr a (fun st => ?_) st
    rw [execW_assoc b]
    refine execW_congr b (fun st => ?_) st
    rw [execW_assoc c]
    refine execW_congr c (fun st => ?_) st
    rw [execW_assoc d]
  exact (as5 p0 p1 p2 p3 p4 (p5.seq .ret) _).trans h7
