/- Slices that are made. -/
import Derived.Test.YtjhgheheopcolaaGreatAbs21
import Derived.Lib.AppendZeros
set_option linter.unusedVariables false
set_option linter.unusedSimpArgs false
namespace Go.Abs
section
variable {P : Program} {cx : Cx}

theorem rowParts_sound {ro : Option Nat} {w : World} {sz : Nat} (hpos : 0 < sz) : ∀ (ps : List (Nat × AV)) (us : List (Nat × Value)) (es es' : List AV) (vs : Array Value) (ρ : Rho) (σ σ' : AS), ps.map (·.1) = us.map (·.1) →
    VRs ρ w (ps.map (·.2)) (us.map (·.2)) → SR ρ σ w → RowAt ρ w sz es vs → (∀ e ∈ es, okE sz e = true) → rowParts ro sz ps es σ = some (es', σ') →
    ∃ ρ' vs', Ext ρ w ρ' w ∧ SR ρ' σ' w ∧ Instr.fill (fun i => some (i * sz, sz)) vs us = some vs' ∧ RowAt ρ' w sz es' vs' ∧ (∀ e ∈ es', okE sz e = true) ∧ es'.length = es.length
  | [], us, es, es', vs, ρ, σ, σ', h1, h2, s, hR, hok, h => by
    have : us = [] := by simpa using h1.symm
    subst this
    simp only [rowParts, Option.some.injEq, Prod.mk.injEq] at h
    obtain ⟨rfl, rfl⟩ := h
    exact ⟨ρ, vs, Ext.refl _ _, s, rfl, hR, hok, rfl⟩
  | (i, x) :: ps, [], es, es', vs, ρ, σ, σ', h1, h2, s, hR, hok, h => by simp at h1
  | (i, x) :: ps, (j, u) :: us, es, es', vs, ρ, σ, σ', h1, h2, s, hR, hok, h => by
    simp only [List.map_cons, List.cons.injEq] at h1
    obtain ⟨rfl, h1⟩ := h1
    obtain ⟨u', us', he, hxu, h2'⟩ := h2.cons_inv
    simp only [List.map_cons, List.cons.injEq] at he
    obtain ⟨rfl, rfl⟩ := he
    simp only [rowParts] at h
    split at h
    · rename_i hi
      split at h
      · rename_i cs σ1 hfz
        obtain ⟨ρ1, x1, s1, v1⟩ := fzL_sound _ _ _ _ _ _ hfz s hxu.cells
        split at h
        · rename_i x' hwc
          split at h
          · rename_i hokx
            have hx' := withCells_VR ⟨ρ, w, hxu⟩ hwc v1
            have hcl := hx'.cells
            have hul : u.cells.size = sz := by rw [← okE_len hokx]; simpa using hcl.1.symm
            have hlt : (i + 1) * sz ≤ es.length * sz := Nat.mul_le_mul_right _ hi
            rw [Nat.add_mul] at hlt
            have hvs := hR.1
            have hf := foldl_lay (i * sz) u.cells.toList 0 vs
            simp only [Nat.add_zero] at hf
            have e : (u.cells.zipIdx.foldl (fun cs (x : Value × Nat) => cs.setIfInBounds (i * sz + x.2) x.1) vs) = (u.cells.toList.zipIdx 0).foldl (fun cs (p : Value × Nat) => cs.setIfInBounds (i * sz + p.2) p.1) vs := by
              rw [← Array.foldl_toList, Array.toList_zipIdx]
            obtain ⟨ρ2, vs', x2, s2, f2, R2, ok2, l2⟩ := rowParts_sound hpos ps us (es.set i x') es' ((u.cells.toList.zipIdx 0).foldl (fun cs (p : Value × Nat) => cs.setIfInBounds (i * sz + p.2) p.1) vs) ρ1 σ1 σ' h1 (h2'.mono x1) s1
              ⟨by rw [hf.1, hvs]; simp, fun k d m c v hd hc hv => by
                have hds : d.cells.length = sz := by
                  rcases List.mem_or_eq_of_mem_set (getElem?_mem' hd) with h | h
                  · exact okE_len (hok d h)
                  · rw [h]; exact okE_len hokx
                have hm : m < sz := by rw [← hds]; exact (List.getElem?_eq_some_iff.1 hc).1
                have hk : k * sz + m < vs.size := by rw [← hf.1]; exact (Array.getElem?_eq_some_iff.1 hv).1
                rw [hf.2 _ hk] at hv
                simp only [Array.length_toList, hul] at hv
                rw [List.getElem?_set] at hd
                by_cases hik : i = k
                · subst hik
                  rw [if_pos rfl, if_pos hi] at hd
                  cases hd
                  rw [if_pos (by omega)] at hv
                  have : i * sz + m - i * sz = m := by omega
                  rw [this] at hv
                  exact hcl.2 m c v hc hv
                · rw [if_neg hik] at hd
                  rw [if_neg (by
                    intro ⟨a1, a2⟩
                    rcases Nat.lt_or_gt_of_ne hik with h | h
                    · have : (i + 1) * sz ≤ k * sz := Nat.mul_le_mul_right _ h
                      rw [Nat.add_mul] at this; omega
                    · have : (k + 1) * sz ≤ i * sz := Nat.mul_le_mul_right _ h
                      rw [Nat.add_mul] at this; omega)] at hv
                  exact (hR.2 k d m c v hd hc hv).mono x1⟩
              (fun d hd => by rcases List.mem_or_eq_of_mem_set hd with h | h; exact hok d h; rw [h]; exact hokx) h
            refine ⟨ρ2, vs', x1.trans x2, s2, ?_, R2, ok2, by simpa using l2⟩
            rw [Instr.fill]
            simp only
            rw [if_neg (by simp; omega), e]
            exact f2
          · cases h
        · cases h
      · cases h
    · cases h

theorem replicate_row {ρ : Rho} {w : World} {z : AV} {zv : Value} (h : VR ρ w z zv) {sz : Nat} (hz : okE sz z = true) (n : Nat) : RowAt ρ w sz (List.replicate n z) ((Array.range (n * sz)).map (zv.cells[· % zv.cells.size]!)) := by
  have := zeroCells_spec h hz n
  have hl : zv.cells.size = sz := by rw [← okE_len hz]; simpa using h.cells.1.symm
  unfold Builtin.zeroCells at this
  rwa [hl] at this ⊢

theorem elemA_und {t e : TypeId} (he : elemA P t = some e) : P.underlying t = some (.slice e) := by
  unfold elemA at he
  split at he
  · cases he; assumption
  · cases he

theorem buildSliceA_sound {ρ : Rho} {σ σ' : AS} {w : World} (s : SR ρ σ w) {t : TypeId} {n : Nat} {ps : List (Nat × AV)} {us : List (Nat × Value)} {c : AV} (h1 : ps.map (·.1) = us.map (·.1)) (h2 : VRs ρ w (ps.map (·.2)) (us.map (·.2)))
    (h : buildSliceA P cx σ t n ps = some (c, σ')) : Eff P ρ w σ' c (Instr.buildSlice t n us.toArray) := by
  unfold buildSliceA at h
  split at h
  · rename_i e he
    split at h
    · rename_i z sz hz hsz
      split at h
      · rename_i hcond
        obtain ⟨hpos, hle, hzok⟩ := hcond
        split at h
        · rename_i es σ1 hrp
          simp only [Option.some.injEq, Prod.mk.injEq] at h
          obtain ⟨rfl, rfl⟩ := h
          obtain ⟨zv, z1, z2⟩ := VR.zero (ρ := ρ) (w := w) (w' := w) hz
          have hund := elemA_und he
          obtain ⟨ρ1, vs, x1, s1, f1, R1, ok1, l1⟩ := rowParts_sound hpos ps us _ es _ ρ σ σ1 h1 h2 s (replicate_row z2 hzok n) (fun e he => by rw [List.eq_of_mem_replicate he]; exact hzok) hrp
          have hlen : es.length = n := by simpa using l1
          obtain ⟨ρ2, x2, s2, v2⟩ := s1.newRow (w' := w.alloc (.cells vs e)) (cap := n) (E := e) (fz := (0, 0)) hpos ok1 (by omega) (by rw [R1.1, hlen]; exact Nat.le_refl _) (.inl (Nat.le_refl _)) (fun b hb => heap_alloc_old w _ b hb) (by simp) rfl rfl rfl (heap_alloc_new w _) R1.2 (Nat.le_refl n)
          refine ⟨_, _, ρ2, ?_, x1.trans x2, s2, v2⟩
          simp only [Instr.buildSlice, Sem.run_bind, run_underlying hund, Result.andThen_ok, run_sizeA hsz]
          rw [if_neg (by omega)]
          by_cases hn : n * sz = 0
          · have e0 : ∀ zero : Array Value, (Array.range (n * sz)).map (zero[· % zero.size]!) = #[] := fun zero => by rw [hn]; simp
            rw [e0] at f1
            rw [if_pos hn]
            simp only [Sem.run_bind, Sem.run_pure, Result.andThen_ok, e0, f1]
            simp [newRow]
          · rw [if_neg hn]
            simp only [Sem.run_bind, z1, Sem.run_pure, Result.andThen_ok, f1]
            simp [newRow]
        · cases h
      · cases h
    · cases h
  · cases h

theorem wrap64_small {n : Int} (h0 : 0 ≤ n) (h1 : n ≤ 2 ^ 44) : IntKind.i64.wrap n = n := by
  rw [← wr_eq]
  have h : (decide (loK .i64 ≤ n) && decide (n ≤ hiK .i64)) = true := by
    have e1 : loK .i64 = -9223372036854775808 := rfl
    have e2 : hiK .i64 = 9223372036854775807 := rfl
    rw [e1, e2, Bool.and_eq_true]
    exact ⟨decide_eq_true (by omega), decide_eq_true (by omega)⟩
  unfold wr
  rw [if_pos h]

theorem makeSliceA_sound {ρ : Rho} {σ σ' : AS} {w : World} (s : SR ρ σ w) {t : TypeId} {l m c : AV} {ul um : Value} (hl : VR ρ w l ul) (hm : VR ρ w m um) (h : makeSliceA P σ t l m = some (c, σ')) :
    Eff P ρ w σ' c (Instr.makeSlice t ul um) := by
  unfold makeSliceA at h
  split at h
  · rename_i e n k he
    split at h
    · rename_i z sz b hz hsz hb
      split at h
      · rename_i hcond
        obtain ⟨hpos, hzok, h0, hnk, hkb, hk⟩ := hcond
        simp only [Option.some.injEq, Prod.mk.injEq] at h
        obtain ⟨rfl, rfl⟩ := h
        cases hl
        cases hm
        obtain ⟨zv, z1, z2⟩ := VR.zero (ρ := ρ) (w := w) (w' := w) hz
        obtain ⟨ti, t1, t2⟩ := run_bytesA hb w
        have hund := elemA_und he
        have hR := replicate_row z2 hzok k.toNat
        have hRn : RowAt ρ w sz (List.replicate n.toNat z) ((Array.range (k.toNat * sz)).map (zv.cells[· % zv.cells.size]!)) → True := fun _ => trivial
        have hw1 : IntKind.i64.wrap n = n := wrap64_small (by omega) (by omega)
        have hw2 : IntKind.i64.wrap k = k := wrap64_small (by omega) (by omega)
        have hbk : (b : Int) * k = k * b := Int.mul_comm _ _
        have c1 : ¬ (281474976710656 < (b : Int) * k) := by rw [hbk]; omega
        obtain ⟨ρ2, x2, s2, v2⟩ := s.newRow (w' := w.alloc (.cells ((Array.range (k.toNat * sz)).map (zv.cells[· % zv.cells.size]!)) e)) (es := List.replicate n.toNat z) (cap := k.toNat) (E := e) (fz := (0, 0)) hpos
          (fun d hd => by rw [List.eq_of_mem_replicate hd]; exact hzok) (by simp; omega) (by simp) (.inl (Nat.le_refl _)) (fun b hb => heap_alloc_old w _ b hb) (by simp) rfl rfl rfl (heap_alloc_new w _)
          (fun i d j c u hd hc hu => by
            refine hR.2 i d j c u ?_ hc hu
            rw [List.getElem?_replicate] at hd ⊢
            split at hd
            · rw [if_pos (by omega)]; exact hd
            · cases hd) (n := n.toNat) (by omega)
        refine ⟨_, _, ρ2, ?_, x2, s2, v2⟩
        simp only [Instr.makeSlice, Sem.run_bind, run_underlying hund, Result.andThen_ok, asInt, asIntOf, Sem.run_pure, t1, t2, hw1, hw2]
        rw [if_neg (by simp; omega)]
        by_cases hn : k.toNat * sz = 0
        · have e0 : ∀ zero : Array Value, (Array.range (k.toNat * sz)).map (zero[· % zero.size]!) = #[] := fun zero => by rw [hn]; simp
          simp only [Sem.run_bind, Result.andThen_ok, Sem.run_pure, run_askRoom, run_sizeA hsz]
          rw [if_pos hn]
          simp only [Sem.run_bind, Result.andThen_ok, Sem.run_pure, e0]
          simp [newRow]
        · simp only [Sem.run_bind, Result.andThen_ok, Sem.run_pure, run_askRoom, run_sizeA hsz]
          rw [if_neg hn]
          simp [z1, newRow]
      · cases h
    · cases h
  · cases h

theorem makeMapA_sound {ρ : Rho} {σ : AS} {w : World} (s : SR ρ σ w) (e : Bool) (t : TypeId) : Eff P ρ w (σ.push e (.map [])) (.map (σ.next e)) (Instr.makeMap t none) := by
  have := s.push (w' := w.alloc (.map #[] 0)) (e := e) (ob := .map []) (p := { b := w.heap.size, o := 0, sz := 1, cap := 0, ver := 0, row := false, live := true }) rfl rfl
    (fun b hb => heap_alloc_old w _ b hb) (by simp) rfl rfl rfl (fun cs' h1 h2 => by cases h2)
    (fun x => ⟨rfl, rfl, #[], 0, heap_alloc_new w _, rfl, MapKept.stamped_empty 0, fun i e m he => by simp at he⟩)
  exact ⟨_, _, _, by simp [Instr.makeMap], this.2, this.1, .map _ _ (upd_same _ _ _) rfl⟩

theorem strBytes_sound {ρ : Rho} {σ : AS} {w : World} (s : SR ρ σ w) {src dst e : TypeId} (h1 : P.underlying src = some .string) (h2 : P.underlying dst = some (.slice e)) (h3 : P.underlying e = some (.int .u8)) (str : ByteArray) :
    Eff P ρ w (σ.push false (.row (str.data.toList.map fun b => .int .u8 b.toNat) 1 0 false)) (.row (σ.next false) 0 0 str.size) (convert src dst (.string str)) := by
  have hcap : str.size ≤ (Question.appendCap str.size 0 e).cut (w.tape w.drawn (.appendCap str.size 0 e)) := by simp [Question.cut]
  generalize hc : (Question.appendCap str.size 0 e).cut (w.tape w.drawn (.appendCap str.size 0 e)) = cap at hcap
  have hsd : str.data.size = str.size := rfl
  let us : Array Value := (str.data.map fun b => (.int .u8 b.toNat : Value)) ++ Array.replicate (cap - str.size) (.int .u8 0)
  have hus : us.size = cap := by simp [us, hsd]; omega
  have hrun : (convert src dst (.string str)).run P w = .ok (.slice (some ⟨w.heap.size, 0, none⟩) str.size cap) ((w.drew.alloc (.cells us e)).freeze ⟨w.heap.size, us.size, none⟩ 1) := by
    have hsh : (w.drew.alloc (.cells us e)).shape? w.heap.size = some (e, us.size) := by
      have := heap_alloc_new w.drew (.cells us e)
      have h0 : w.drew.heap.size = w.heap.size := rfl
      rw [h0] at this
      simp only [World.shape?, this]
    simp [convert, run_underlying h1, run_underlying h2, run_underlying h3, Conv.stringToBytes, Question.forced, hc, newRow, markStringish]
    have e1 : (str.data.map fun b => (.int .u8 b.toNat : Value)) ++ Array.replicate (cap - str.size) (.int .u8 0) = us := rfl
    rw [e1, hsh]
    simp
  have hheap : ((w.drew.alloc (.cells us e)).freeze ⟨w.heap.size, us.size, none⟩ 1).heap[w.heap.size]? = some (.cells us e (us.size, us.size + 1)) := by
    have := heap_alloc_new w.drew (.cells us e)
    have h0 : w.drew.heap.size = w.heap.size := rfl
    rw [h0] at this
    simp only [World.freeze]
    rw [if_neg (by omega)]
    simp only [Array.getElem?_modify, if_true, this, Option.map_some]
    simp
  have hold : ∀ b, b < w.heap.size → ((w.drew.alloc (.cells us e)).freeze ⟨w.heap.size, us.size, none⟩ 1).heap[b]? = w.heap[b]? := fun b hb => by
    have := heap_alloc_old w.drew (.cells us e) b hb
    simp only [World.freeze]
    rw [if_neg (by omega)]
    simp only [Array.getElem?_modify]
    rw [if_neg (by omega)]
    exact this
  have hsize : w.heap.size < ((w.drew.alloc (.cells us e)).freeze ⟨w.heap.size, us.size, none⟩ 1).heap.size := by simp [World.freeze]
  obtain ⟨ρ2, x2, s2, v2⟩ := s.newRow (w' := (w.drew.alloc (.cells us e)).freeze ⟨w.heap.size, us.size, none⟩ 1) (es := str.data.toList.map fun b => .int .u8 b.toNat) (sz := 1) (cap := cap) (us := us) (E := e) (fz := (us.size, us.size + 1)) (by omega)
    (fun d hd => by obtain ⟨b, _, rfl⟩ := List.mem_map.1 hd; simp [okE, AV.cells, AV.one, AVs.inb, AV.inb]) (by simpa using hcap) (by rw [hus]; omega) (.inr (by rw [hus]; omega)) hold hsize
    (by first | (simp [World.freeze]; done) | (simp [World.freeze]; rfl)) (by first | (simp [World.freeze]; done) | (simp [World.freeze]; rfl)) (by first | (simp [World.freeze]; done) | (simp [World.freeze]; rfl)) hheap
    (fun i d j c u hd hc hu => by
      rw [List.getElem?_map] at hd
      cases hb : str.data.toList[i]? with
      | none => simp [hb] at hd
      | some b =>
        simp only [hb, Option.map_some, Option.some.injEq] at hd
        subst hd
        cases j with
        | zero =>
          simp only [AV.cells, List.getElem?_cons_zero, Option.some.injEq] at hc
          subst hc
          have hi : i < str.size := by have := (List.getElem?_eq_some_iff.1 hb).1; simpa using this
          simp only [Nat.mul_one, Nat.add_zero, us] at hu
          rw [Array.getElem?_append_left (by simp; omega), Array.getElem?_map] at hu
          have hb' : str.data[i]? = some b := by simpa using hb
          rw [hb'] at hu
          simp only [Option.map_some, Option.some.injEq] at hu
          subst hu
          exact .int _ _
        | succ j => simp [AV.cells] at hc) (n := str.size) (by omega)
  exact ⟨_, _, ρ2, hrun, x2, s2, v2⟩

theorem appendZA_sound {ρ : Rho} {σ σ' : AS} {w : World} (s : SR ρ σ w) {ts : List TypeId} {a x c : AV} {ua ux : Value} {ty : TypeId} (ha : VR ρ w a ua) (hx : VR ρ w x ux) (h : appendZA P σ ts a x = some (c, σ')) :
    Eff P ρ w σ' c (Builtin.append_ ts.toArray ty #[ua, ux]) := by
  unfold appendZA at h
  split at h
  · rename_i st xt
    split at h
    · rename_i n
      split at h
      · rename_i e kn he hxt
        split at h
        · rename_i sz b z hsz hb hz
          split at h
          · rename_i hc
            obtain ⟨h0, hok, hn, hbo⟩ := hc
            cases h
            cases ha
            cases hx
            obtain ⟨m, rfl⟩ : ∃ m : Nat, n = m := ⟨n.toNat, by omega⟩
            simp only [Int.toNat_natCast] at hbo ⊢
            unfold sizeA at hsz
            unfold bytesA at hb
            unfold zeroA at hz
            cases hi : P.info? e with
            | none => rw [hi] at hsz; cases hsz
            | some i =>
              rw [hi] at hsz hb hz
              simp only [Option.map_some, Option.some.injEq, Option.bind_some] at hsz hb hz
              cases hzv : i.zero with
              | none => rw [hzv] at hz; cases hz
              | some zv =>
                rw [hzv] at hz
                simp only [Option.bind_some] at hz
                have hbo' : m * b ≤ 2 ^ 44 ∧ m ≤ 2 ^ 44 ∧ b ≤ 2 ^ 30 := by simpa [bytesOk] using hbo
                have hrun := Go.Lib.run_append_nil_zeros (P := P) w st xt ty e i zv .i64 kn (elemA_und he) hxt hi hzv m (by omega) (by omega) (by omega) (by rw [hb]; omega)
                have hz' : VR ρ w z zv := ofV_sound hz
                have hcap : m ≤ grownCap w m 0 e := grownCap_ge w m 0 e
                have hR := zeroCells_spec hz' hok m
                have hR2 := zeroCells_spec hz' hok (grownCap w m 0 e - m)
                have hsize : w.heap.size < (w.drew.alloc (.cells (Builtin.zeroCells zv.cells m ++ Builtin.zeroCells zv.cells (grownCap w m 0 e - m)) e)).heap.size := by simp
                obtain ⟨ρ', x', s', v'⟩ := s.newRow (w' := w.drew.alloc (.cells (Builtin.zeroCells zv.cells m ++ Builtin.zeroCells zv.cells (grownCap w m 0 e - m)) e)) (es := List.replicate m z) (sz := sz) (cap := grownCap w m 0 e) (us := Builtin.zeroCells zv.cells m ++ Builtin.zeroCells zv.cells (grownCap w m 0 e - m)) (E := e) (fz := (0, 0)) h0
                  (fun d hd => by rw [List.eq_of_mem_replicate hd]; exact hok) (by simpa using hcap)
                  (by rw [Array.size_append, hR.1, hR2.1, List.length_replicate, List.length_replicate, ← Nat.add_mul]; exact Nat.mul_le_mul_right _ (by omega)) (.inl (Nat.le_refl _))
                  (fun b hb => heap_alloc_old w.drew _ b hb) hsize rfl rfl rfl (heap_alloc_new w.drew _) (fun i d j c u hd hc hu => hR.2 i d j c u hd hc (by
                    have hlt : i * sz + j < (Builtin.zeroCells zv.cells m).size := by
                      rw [hR.1, List.length_replicate]
                      have hi' : i < m := by simpa using (List.getElem?_eq_some_iff.1 hd).1
                      have hj : j < sz := by
                        have := (List.getElem?_eq_some_iff.1 hc).1
                        rw [List.eq_of_mem_replicate (getElem?_mem' hd), okE_len hok] at this
                        exact this
                      have : (i + 1) * sz ≤ m * sz := Nat.mul_le_mul_right _ hi'
                      rw [Nat.add_mul] at this
                      omega
                    rw [Array.getElem?_append_left hlt] at hu
                    exact hu)) hcap
                exact ⟨_, _, ρ', hrun, x', s', v'⟩
          · cases h
        · cases h
      · cases h
    · cases h
  · cases h

/-- A range over a map that has nothing. -/
theorem rangeA_sound {ρ : Rho} {σ : AS} {w : World} (s : SR ρ σ w) {t k e : TypeId} (ht : P.underlying t = some (.map k e)) {m : AV} {um : Value} (hm : VR ρ w m um) (hin : m.inb 0 = true)
    (hmap : m = .nilm ∨ ∃ L es, m = .map L ∧ σ.get L = some (.map es)) : Eff P ρ w (σ.push false (.iter m)) (.ptr (σ.next false) 0) (Instr.range t um) := by
  have lay : ∀ (mb : Option Nat) (since last : Nat), um = .map mb → (Instr.range t um).run P w = .ok (.pointer (some ⟨w.heap.size, 0, none⟩)) (w.alloc (.mapIter mb since #[] last)) →
      Eff P ρ w (σ.push false (.iter m)) (.ptr (σ.next false) 0) (Instr.range t um) := by
    intro mb since last hu hrun
    have := s.push (w' := w.alloc (.mapIter mb since #[] last)) (e := false) (ob := .iter m) (p := { b := w.heap.size, o := 0, sz := 1, cap := 0, ver := 0, row := false, live := true }) rfl rfl
      (fun b hb => heap_alloc_old w _ b hb) (by simp) rfl rfl rfl (fun cs' h1 h2 => by cases h2)
      (fun x => ⟨rfl, rfl, hin, mb, since, last, heap_alloc_new w _, by rw [← hu]; exact hm.mono x⟩)
    exact ⟨_, _, _, hrun, this.2, this.1, .ptr _ _ _ (upd_same _ _ _) rfl⟩
  rcases hmap with rfl | ⟨L, es, rfl, hg⟩
  · cases hm
    exact lay none 0 0 rfl (by simp [Instr.range, run_underlying ht])
  · obtain ⟨p, arr, clock, hp, hr, hl, hw, _, _⟩ := map_obj s.toSRo hg
    cases hm with
    | map _ p' hp' hr' =>
      have : p' = p := Option.some.inj (hp'.symm.trans hp)
      subst this
      have hgo : (getObj p'.b).run P w = .ok (.map arr clock) w := by simp [getObj, Sem.run, hw]
      exact lay (some p'.b) clock clock rfl (by simp [Instr.range, run_underlying ht, hgo])

theorem nextA_sound {ρ : Rho} {σ : AS} {w : World} (s : SR ρ σ w) {L : Loc} {m : AV} (hg : σ.get L = some (.iter m)) (hm : m = .nilm ∨ ∃ M, m = .map M ∧ σ.get M = some (.map [])) {u : Value} (hu : VR ρ w (.ptr L 0) u) (ty : TypeId) :
    Eff P ρ w σ (.tup [.bool false]) (Instr.next u false ty) := by
  obtain ⟨p, hp, o⟩ := s.obj L _ hg
  obtain ⟨hl, hr, _, mb, since, last, hw, hv⟩ := o
  cases hu with
  | ptr _ _ p' hp' hr' =>
    have : p' = p := Option.some.inj (hp'.symm.trans hp)
    subst this
    have hgo : (getObj p'.b).run P w = .ok (.mapIter mb since #[] last) w := by simp [getObj, Sem.run, hw]
    have hres : VR ρ w (.tup [.bool false]) (.tuple #[.bool false]) := .tup _ _ rfl fun i c x hc hx => by
      match i with
      | 0 =>
        simp at hc hx
        subst hc; subst hx
        exact .bool _
      | n + 1 => simp at hc
    refine ⟨_, w, ρ, ?_, Ext.refl _ _, s, hres⟩
    rcases hm with rfl | ⟨M, rfl, hgM⟩
    · cases hv
      simp [Instr.next, hgo]
    · obtain ⟨q, arr, clock, hq, hqr, hql, hqw, _, hE⟩ := map_obj s.toSRo hgM
      cases hv with
      | map _ q' hq' hqr' =>
        have : q' = q := Option.some.inj (hq'.symm.trans hq)
        subst this
        have harr : arr = #[] := by
          have := hE.1
          exact Array.eq_empty_of_size_eq_zero (by simpa using this.symm)
        subst harr
        have hgo2 : (getObj q'.b).run P w = .ok (.map #[] clock) w := by simp [getObj, Sem.run, hqw]
        simp [Instr.next, hgo, hgo2, choose, Sem.run, Question.forced]
end
end Go.Abs
