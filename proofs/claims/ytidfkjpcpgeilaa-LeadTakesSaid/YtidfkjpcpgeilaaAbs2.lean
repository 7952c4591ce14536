/- Part 2 of the abstract interpreter: its operations and what they say of a world, for any program and any world. -/
import Derived.Test.YtidfkjpcpgeilaaAbs1
import Derived.Laws.World
import Derived.Laws.Rows
import Derived.MapKept
import Derived.Laws.IdiomCopy
import Derived.Laws.StructEq
set_option linter.unusedVariables false
set_option linter.unusedSimpArgs false
section
namespace Go.Abs
structure Place where
  b : Nat
  o : Nat
  sz : Nat
  cap : Nat
  ver : Nat
  row : Bool
  live : Bool
structure Rho where
  loc : Loc → Option Place
  res : Nat → Prop
instance : CoeFun Rho (fun _ => Loc → Option Place) := ⟨Rho.loc⟩
def Free (ρ : Rho) (b : Nat) : Prop := (∀ L p, ρ L = some p → p.live = true → p.b ≠ b) ∧ ¬ ρ.res b
inductive VR (ρ : Rho) (w : World) : AV → Value → Prop
  | bool (b : Bool) : VR ρ w (.bool b) (.bool b)
  | int (k : IntKind) (n : Int) : VR ρ w (.int k n) (.int k n)
  | str (s : ByteArray) : VR ρ w (.str s) (.string s)
  | nilp : VR ρ w .nilp (.pointer none)
  | ptr (L : Loc) (o : Nat) (p : Place) (h : ρ L = some p) (hr : p.row = false) : VR ρ w (.ptr L o) (.pointer (some ⟨p.b, o, none⟩))
  | rptr (cs : List AV) (o b o0 : Nat) (f : Nat → Value) (hb : b < w.heap.size) (hf : Free ρ b)
      (h1 : ∀ (j : Nat) (c : AV), cs[j]? = some c → w.cell? ⟨b, o0 + j, none⟩ = some (f j)) (h2 : ∀ (j : Nat) (c : AV), cs[j]? = some c → VR ρ w c (f j))
      (h3 : AVs.inb 0 cs = true) : VR ρ w (.rptr cs o) (.pointer (some ⟨b, o0 + o, none⟩))
  | eptr (L : Loc) (v i o : Nat) (p : Place) (a : Addr) (h : ρ L = some p) (hr : p.row = true) (hv : v ≤ p.ver)
      (ha : p.ver = v → a = ⟨p.b, p.o + i * p.sz + o, none⟩) : VR ρ w (.eptr L v i o) (.pointer (some a))
  | nils : VR ρ w .nils (.slice none 0 0)
  | sl (full : Bool) (sz : Nat) (es : List AV) (a : Addr) (cap : Nat) (f : Nat → Nat → Value) (hc : es.length ≤ cap) (hfull : full = true → cap = es.length)
      (hp : es ≠ [] → a.spot = none ∧ a.block < w.heap.size ∧ Free ρ a.block)
      (hok : ∀ e ∈ es, okE sz e = true)
      (h1 : ∀ (i : Nat) (e : AV) (j : Nat) (c : AV), es[i]? = some e → e.cells[j]? = some c → w.cell? ⟨a.block, a.off + i * sz + j, none⟩ = some (f i j))
      (h2 : ∀ (i : Nat) (e : AV) (j : Nat) (c : AV), es[i]? = some e → e.cells[j]? = some c → VR ρ w c (f i j)) : VR ρ w (.sl full sz es) (.slice (some a) es.length cap)
  | row (L : Loc) (v off len : Nat) (p : Place) (a : Addr) (cap : Nat) (h : ρ L = some p) (hr : p.row = true) (hv : v ≤ p.ver) (hl : len ≤ cap)
      (ha : p.ver = v → cap + off = p.cap ∧ (0 < cap → a = ⟨p.b, p.o + off * p.sz, none⟩)) : VR ρ w (.row L v off len) (.slice (some a) len cap)
  | nilm : VR ρ w .nilm (.map none)
  | map (L : Loc) (p : Place) (h : ρ L = some p) (hr : p.row = false) : VR ρ w (.map L) (.map (some p.b))
  | fn (f : Fn) (xs ys : List AV) (vs us : Array Value) (l1 : xs.length = vs.size) (l2 : ys.length = us.size)
      (h1 : ∀ (i : Nat) (x : AV) (v : Value), xs[i]? = some x → vs[i]? = some v → VR ρ w x v) (h2 : ∀ (i : Nat) (y : AV) (u : Value), ys[i]? = some y → us[i]? = some u → VR ρ w y u) : VR ρ w (.fn f xs ys) (.func f vs us)
  | nilf : VR ρ w .nilf .nilFunc
  | iface (t : TypeId) (x : AV) (v : Value) (h : VR ρ w x v) : VR ρ w (.iface t x) (.iface t v)
  | nili : VR ρ w .nili .nilIface
  | agg (cs : List AV) (vs : Array Value) (l : cs.length = vs.size) (h : ∀ (i : Nat) (c : AV) (v : Value), cs[i]? = some c → vs[i]? = some v → VR ρ w c v) : VR ρ w (.agg cs) (.agg vs)
  | tup (cs : List AV) (vs : Array Value) (l : cs.length = vs.size) (h : ∀ (i : Nat) (c : AV) (v : Value), cs[i]? = some c → vs[i]? = some v → VR ρ w c v) : VR ρ w (.tup cs) (.tuple vs)
  | any (a : Option Addr) (l c : Nat) : VR ρ w .any (.slice a l c)
theorem cell_of_block {w w' : World} {a : Addr} (h : w'.heap[a.block]? = w.heap[a.block]?) : w'.cell? a = w.cell? a := by simp [World.cell?, h]
def VRs (ρ : Rho) (w : World) (cs : List AV) (vs : List Value) : Prop :=
  cs.length = vs.length ∧ ∀ (i : Nat) (c : AV) (v : Value), cs[i]? = some c → vs[i]? = some v → VR ρ w c v
structure Ext (ρ : Rho) (w : World) (ρ' : Rho) (w' : World) : Prop where
  loc : ∀ L p, ρ L = some p → ∃ p', ρ' L = some p' ∧ p'.row = p.row ∧ p.ver ≤ p'.ver ∧ (p'.ver = p.ver → p'.b = p.b ∧ p'.o = p.o ∧ p'.sz = p.sz ∧ p'.cap = p.cap) ∧ (p.row = false → p'.b = p.b)
  free : ∀ b, b < w.heap.size → Free ρ b → Free ρ' b ∧ w'.heap[b]? = w.heap[b]?
  res : ρ'.res = ρ.res ∧ ∀ b, b < w.heap.size → ρ.res b → w'.heap[b]? = w.heap[b]?
  size : w.heap.size ≤ w'.heap.size
  os : w'.os = w.os
  tape : w'.tape = w.tape
  output : w'.output = w.output
theorem Ext.refl (ρ : Rho) (w : World) : Ext ρ w ρ w :=
  ⟨fun _ p h => ⟨p, h, rfl, Nat.le_refl _, fun _ => ⟨rfl, rfl, rfl, rfl⟩, fun _ => rfl⟩, fun _ _ h => ⟨h, rfl⟩, ⟨rfl, fun _ _ _ => rfl⟩, Nat.le_refl _, rfl, rfl, rfl⟩
theorem Ext.trans {ρ : Rho} {w : World} {ρ' : Rho} {w' : World} {ρ'' : Rho} {w'' : World} (h : Ext ρ w ρ' w') (k : Ext ρ' w' ρ'' w'') : Ext ρ w ρ'' w'' := by
  refine ⟨fun L p hp => ?_, fun b hb hf => ?_, ⟨k.res.1.trans h.res.1, fun b hb hr => (k.res.2 b (Nat.lt_of_lt_of_le hb h.size) (by rw [h.res.1]; exact hr)).trans (h.res.2 b hb hr)⟩, Nat.le_trans h.size k.size, k.os.trans h.os, k.tape.trans h.tape, k.output.trans h.output⟩
  · obtain ⟨p1, e1, r1, v1, s1, b1⟩ := h.loc L p hp
    obtain ⟨p2, e2, r2, v2, s2, b2⟩ := k.loc L p1 e1
    refine ⟨p2, e2, r2.trans r1, Nat.le_trans v1 v2, fun e => ?_, fun e => ?_⟩
    · have e3 : p1.ver = p.ver := by omega
      have e4 : p2.ver = p1.ver := by omega
      obtain ⟨a1, a2, a3, a4⟩ := s1 e3
      obtain ⟨c1, c2, c3, c4⟩ := s2 e4
      exact ⟨c1.trans a1, c2.trans a2, c3.trans a3, c4.trans a4⟩
    · exact (b2 (r1.trans e)).trans (b1 e)
  · obtain ⟨f1, e1⟩ := h.free b hb hf
    obtain ⟨f2, e2⟩ := k.free b (Nat.lt_of_lt_of_le hb h.size) f1
    exact ⟨f2, e2.trans e1⟩
theorem VR.mono {ρ : Rho} {w : World} {ρ' : Rho} {w' : World} (x : Ext ρ w ρ' w') {a : AV} {v : Value} (h : VR ρ w a v) : VR ρ' w' a v := by
  induction h with
  | bool b => exact .bool b
  | int k n => exact .int k n
  | str s => exact .str s
  | nilp => exact .nilp
  | ptr L o p h hr =>
    obtain ⟨p', e, r, _, _, b⟩ := x.loc L p h
    have := VR.ptr (ρ := ρ') (w := w') L o p' e (r.trans hr)
    rwa [b hr] at this
  | rptr cs o b o0 f hb hf h1 h2 h3 ih =>
    obtain ⟨f1, e1⟩ := x.free b hb hf
    refine .rptr cs o b o0 f (Nat.lt_of_lt_of_le hb x.size) f1 (fun j c hj => ?_) ih h3
    exact (cell_of_block e1).trans (h1 j c hj)
  | eptr L v i o p a h hr hv ha =>
    obtain ⟨p', e, r, vv, s, b⟩ := x.loc L p h
    refine .eptr L v i o p' a e (r.trans hr) (Nat.le_trans hv vv) fun hh => ?_
    have e1 : p'.ver = p.ver := by omega
    obtain ⟨c1, c2, c3, c4⟩ := s e1
    rw [ha (by omega), c1, c2, c3]
  | nils => exact .nils
  | sl full sz es a cap f hc hfull hp hok h1 h2 ih =>
    refine .sl full sz es a cap f hc hfull (fun hne => ?_) hok (fun i e j c hi hj => ?_) ih
    · obtain ⟨p1, p2, p3⟩ := hp hne
      exact ⟨p1, Nat.lt_of_lt_of_le p2 x.size, (x.free _ p2 p3).1⟩
    · have hne : es ≠ [] := by intro h0; rw [h0] at hi; simp at hi
      obtain ⟨p1, p2, p3⟩ := hp hne
      exact (cell_of_block (a := ⟨a.block, a.off + i * sz + j, none⟩) (x.free _ p2 p3).2).trans (h1 i e j c hi hj)
  | row L v off len p a cap h hr hv hl ha =>
    obtain ⟨p', e, r, vv, s, b⟩ := x.loc L p h
    refine .row L v off len p' a cap e (r.trans hr) (Nat.le_trans hv vv) hl fun hh => ?_
    have e1 : p'.ver = p.ver := by omega
    obtain ⟨c1, c2, c3, c4⟩ := s e1
    obtain ⟨q1, q2⟩ := ha (by omega)
    rw [c1, c2, c3, c4]
    exact ⟨q1, q2⟩
  | nilm => exact .nilm
  | map L p h hr =>
    obtain ⟨p', e, r, _, _, b⟩ := x.loc L p h
    have := VR.map (ρ := ρ') (w := w') L p' e (r.trans hr)
    rwa [b hr] at this
  | fn f xs ys vs us l1 l2 h1 h2 ih1 ih2 => exact .fn f xs ys vs us l1 l2 ih1 ih2
  | nilf => exact .nilf
  | iface t a v h ih => exact .iface t a v ih
  | nili => exact .nili
  | agg cs vs l h ih => exact .agg cs vs l ih
  | tup cs vs l h ih => exact .tup cs vs l ih
  | any a l c => exact .any a l c
theorem VRs.mono {ρ : Rho} {w : World} {ρ' : Rho} {w' : World} (x : Ext ρ w ρ' w') {cs : List AV} {vs : List Value} (h : VRs ρ w cs vs) : VRs ρ' w' cs vs :=
  ⟨h.1, fun i c v hc hv => (h.2 i c v hc hv).mono x⟩
def OR (ρ : Rho) (w : World) (p : Place) : AObj → Prop
  | .cells cs => p.live = true ∧ p.row = false ∧ ∃ vs E, w.heap[p.b]? = some (.cells vs E (0, 0)) ∧ cs.length = vs.size ∧ ∀ (i : Nat) (c : AV) (v : Value), cs[i]? = some c → vs[i]? = some v → VR ρ w c v
  | .row es sz v fro => p.row = true ∧ p.ver = v ∧ p.sz = sz ∧ 0 < sz ∧ p.live = !fro ∧ es.length ≤ p.cap ∧ (∀ e ∈ es, okE sz e = true) ∧ (fro = true → Free ρ p.b ∧ p.b < w.heap.size) ∧
      ∃ vs E fz, w.heap[p.b]? = some (.cells vs E fz) ∧ p.o + p.cap * sz ≤ vs.size ∧ (fz.2 ≤ fz.1 ∨ p.o + p.cap * sz ≤ fz.1) ∧
        ∀ (i : Nat) (e : AV) (j : Nat) (c : AV) (u : Value), es[i]? = some e → e.cells[j]? = some c → vs[p.o + i * sz + j]? = some u → VR ρ w c u
  | .map es => p.live = true ∧ p.row = false ∧ ∃ arr clock, w.heap[p.b]? = some (.map arr clock) ∧ es.length = arr.size ∧ MapKept.Stamped arr clock ∧
      ∀ (i : Nat) (e : AV × AV) (m : MapEntry), es[i]? = some e → arr[i]? = some m → e.1.inb 0 = true ∧ e.2.inb 0 = true ∧ VR ρ w e.1 m.key ∧ VR ρ w e.2 m.val
  | .iter m => p.live = true ∧ p.row = false ∧ m.inb 0 = true ∧ ∃ mb since seen last, w.heap[p.b]? = some (.mapIter mb since seen last) ∧ VR ρ w m (.map mb)
  | .dead => p.live = false
structure SRo (ρ : Rho) (σ : AS) (w : World) : Prop where
  objD : ∀ L ob, σ.get L = some ob → ob ≠ .dead → ∃ p, ρ L = some p ∧ OR ρ w p ob
def glbCells : List (Nat × Value) := []
structure SR (ρ : Rho) (σ : AS) (w : World) : Prop extends SRo ρ σ w where
  dom : ∀ L p, ρ L = some p → ∃ ob, σ.get L = some ob
  inj : ∀ L L' p p', ρ L = some p → ρ L' = some p' → p.live = true → p'.live = true → p.b = p'.b → L = L'
  lt : ∀ L p, ρ L = some p → p.live = true → p.b < w.heap.size
  hin : ∀ i cs, σ.get (.hp i) = some (.cells cs) → AVs.inb 0 cs = true
  nres : ∀ L p, ρ L = some p → p.live = true → ¬ ρ.res p.b
  resl : ∀ b, ρ.res b → b < w.heap.size
  glb : ∀ x ∈ glbCells, x.1 < w.heap.size ∧ Free ρ x.1 ∧ w.cell? ⟨x.1, 0, none⟩ = some x.2
theorem Ext.glb {ρ : Rho} {σ : AS} {w : World} {ρ' : Rho} {w' : World} (x : Ext ρ w ρ' w') (s : SR ρ σ w) : ∀ y ∈ glbCells, y.1 < w'.heap.size ∧ Free ρ' y.1 ∧ w'.cell? ⟨y.1, 0, none⟩ = some y.2 := fun y hy => by
  obtain ⟨h1, h2, h3⟩ := s.glb y hy
  obtain ⟨f1, f2⟩ := x.free _ h1 h2
  exact ⟨Nat.lt_of_lt_of_le h1 x.size, f1, (cell_of_block (a := ⟨y.1, 0, none⟩) f2).trans h3⟩
instance {ρ : Rho} {σ : AS} {w : World} : Coe (SR ρ σ w) (SRo ρ σ w) := ⟨SR.toSRo⟩
theorem SRo.obj {ρ : Rho} {σ : AS} {w : World} (s : SRo ρ σ w) (L : Loc) (ob : AObj) (h : σ.get L = some ob) (hd : ob ≠ .dead := by (intro h; cases h)) : ∃ p, ρ L = some p ∧ OR ρ w p ob := s.objD L ob h hd
theorem AVs.inb_iff {h : Nat} {l : List AV} : AVs.inb h l = true ↔ ∀ c ∈ l, c.inb h = true := by
  induction l with
  | nil => simp [AVs.inb]
  | cons a l ih => simp [AVs.inb, ih]
theorem getElem?_mem' {α} {l : List α} {i : Nat} {a : α} (h : l[i]? = some a) : a ∈ l := by
  rw [List.getElem?_eq_some_iff] at h
  obtain ⟨h, rfl⟩ := h
  exact List.getElem_mem h
theorem VR.inb {ρ : Rho} {w : World} {σ : AS} (hd : ∀ L p, ρ L = some p → ∃ ob, σ.get L = some ob) {a : AV} {v : Value} (h : VR ρ w a v) : a.inb σ.st.length = true := by
  have hL : ∀ L p, ρ L = some p → L.inb σ.st.length = true := fun L p h => by
    obtain ⟨ob, ho⟩ := hd L p h
    cases L with
    | hp i => rfl
    | st i => simp only [Loc.inb, decide_eq_true_eq]; simp only [AS.get] at ho; exact (List.getElem?_eq_some_iff.1 ho).1
  have hall : ∀ (cs : List AV) (vs : Array Value), cs.length = vs.size → (∀ (i : Nat) (c : AV) (v : Value), cs[i]? = some c → vs[i]? = some v → c.inb σ.st.length = true) → AVs.inb σ.st.length cs = true := by
    intro cs vs l ih
    rw [AVs.inb_iff]
    intro c hc
    obtain ⟨i, hi, rfl⟩ := List.getElem_of_mem hc
    exact ih i _ (vs[i]'(by omega)) (by simp) (by simp)
  induction h with
  | ptr L o p h hr => exact hL L p h
  | eptr L v i o p a h hr hv ha => exact hL L p h
  | row L v off len p a cap h hr hv hl ha => exact hL L p h
  | map L p h hr => exact hL L p h
  | fn f xs ys vs us l1 l2 h1 h2 ih1 ih2 => simp only [AV.inb, Bool.and_eq_true]; exact ⟨hall xs vs l1 ih1, hall ys us l2 ih2⟩
  | iface t a v h ih => simpa [AV.inb] using ih
  | agg cs vs l h ih => simp only [AV.inb]; exact hall cs vs l ih
  | tup cs vs l h ih => simp only [AV.inb]; exact hall cs vs l ih
  | _ => simp [AV.inb]
theorem Loc.inb_mono {L : Loc} {h k : Nat} (hk : h ≤ k) (x : L.inb h = true) : L.inb k = true := by
  cases L with
  | hp i => rfl
  | st i => simp only [Loc.inb, decide_eq_true_eq] at *; omega
mutual
theorem AV.inb_mono {h k : Nat} (hk : h ≤ k) : ∀ (a : AV), a.inb h = true → a.inb k = true
  | .ptr L _, x => Loc.inb_mono hk x
  | .eptr L _ _ _, x => Loc.inb_mono hk x
  | .row L _ _ _, x => Loc.inb_mono hk x
  | .map L, x => Loc.inb_mono hk x
  | .fn _ a b, x => by
    simp only [AV.inb, Bool.and_eq_true] at *
    exact ⟨AVs.inb_mono hk a x.1, AVs.inb_mono hk b x.2⟩
  | .iface _ v, x => by simp only [AV.inb] at *; exact AV.inb_mono hk v x
  | .agg cs, x => by simp only [AV.inb] at *; exact AVs.inb_mono hk cs x
  | .tup cs, x => by simp only [AV.inb] at *; exact AVs.inb_mono hk cs x
  | .bool _, _ | .int _ _, _ | .str _, _ | .nilp, _ | .rptr _ _, _ | .nils, _ | .sl _ _ _, _ | .nilm, _ | .nilf, _ | .nili, _ | .any, _ => by simp [AV.inb]
theorem AVs.inb_mono {h k : Nat} (hk : h ≤ k) : ∀ (l : List AV), AVs.inb h l = true → AVs.inb k l = true
  | [], _ => rfl
  | a :: l, x => by
    simp only [AVs.inb, Bool.and_eq_true] at *
    exact ⟨AV.inb_mono hk a x.1, AVs.inb_mono hk l x.2⟩
end
def Rho.cut (ρ : Rho) (h : Nat) : Rho := ⟨fun L => if L.inb h = true then ρ L else none, ρ.res⟩
theorem Rho.cut_some {ρ : Rho} {h : Nat} {L : Loc} {p : Place} (x : ρ.cut h L = some p) : L.inb h = true ∧ ρ L = some p := by
  unfold Rho.cut at x
  simp only at x
  split at x
  · exact ⟨by assumption, x⟩
  · cases x
theorem Free.cut {ρ : Rho} {b h : Nat} (x : Free ρ b) : Free (ρ.cut h) b := ⟨fun L p hp hl => x.1 L p (Rho.cut_some hp).2 hl, x.2⟩
theorem cell_inb {h : Nat} {l : List AV} {j : Nat} {c : AV} (x : AVs.inb h l = true) (hj : l[j]? = some c) : c.inb h = true :=
  AVs.inb_iff.1 x c (getElem?_mem' hj)
theorem okE_len {sz : Nat} {e : AV} (h : okE sz e = true) : e.cells.length = sz := by
  unfold okE at h; simp only [Bool.and_eq_true, decide_eq_true_eq] at h; exact h.1
theorem okE_inb {sz : Nat} {e : AV} (h : okE sz e = true) : AVs.inb 0 e.cells = true := by
  unfold okE at h; simp only [Bool.and_eq_true, decide_eq_true_eq] at h; exact h.2.2
theorem okE_one {sz : Nat} {e : AV} (h : okE sz e = true) : ∀ c ∈ e.cells, c.one = true := by
  unfold okE at h; simp only [Bool.and_eq_true, decide_eq_true_eq, List.all_eq_true] at h; exact h.2.1
theorem VR.cut {ρ : Rho} {w : World} {h : Nat} {a : AV} {v : Value} (x : VR ρ w a v) : a.inb h = true → VR (ρ.cut h) w a v := by
  have hL : ∀ {L p}, ρ L = some p → L.inb h = true → ρ.cut h L = some p := fun hp hi => by simp [Rho.cut, hi, hp]
  induction x with
  | bool b => intro _; exact .bool b
  | int k n => intro _; exact .int k n
  | str s => intro _; exact .str s
  | nilp => intro _; exact .nilp
  | ptr L o p h hr => intro y; exact .ptr L o p (hL h y) hr
  | rptr cs o b o0 f hb hf h1 h2 h3 ih =>
    intro _
    exact .rptr cs o b o0 f hb hf.cut h1 (fun j c hj => ih j c hj (AV.inb_mono (Nat.zero_le _) _ (cell_inb h3 hj))) h3
  | eptr L v i o p a h hr hv ha => intro y; exact .eptr L v i o p a (hL h y) hr hv ha
  | nils => intro _; exact .nils
  | sl full sz es a cap f hc hfull hp hok h1 h2 ih =>
    intro _
    refine .sl full sz es a cap f hc hfull (fun hne => ?_) hok h1 (fun i e j c hi hj => ih i e j c hi hj ?_)
    · obtain ⟨p1, p2, p3⟩ := hp hne; exact ⟨p1, p2, p3.cut⟩
    · exact AV.inb_mono (Nat.zero_le _) _ (cell_inb (okE_inb (hok e (getElem?_mem' hi))) hj)
  | row L v off len p a cap h hr hv hl ha => intro y; exact .row L v off len p a cap (hL h y) hr hv hl ha
  | nilm => intro _; exact .nilm
  | map L p h hr => intro y; exact .map L p (hL h y) hr
  | fn f xs ys vs us l1 l2 h1 h2 ih1 ih2 =>
    intro y
    simp only [AV.inb, Bool.and_eq_true] at y
    exact .fn f xs ys vs us l1 l2 (fun i c v hc hv => ih1 i c v hc hv (cell_inb y.1 hc)) (fun i c v hc hv => ih2 i c v hc hv (cell_inb y.2 hc))
  | nilf => intro _; exact .nilf
  | iface t a v h ih => intro y; exact .iface t a v (ih (by simpa [AV.inb] using y))
  | nili => intro _; exact .nili
  | agg cs vs l h ih => intro y; simp only [AV.inb] at y; exact .agg cs vs l (fun i c v hc hv => ih i c v hc hv (cell_inb y hc))
  | tup cs vs l h ih => intro y; simp only [AV.inb] at y; exact .tup cs vs l (fun i c v hc hv => ih i c v hc hv (cell_inb y hc))
  | any a l c => intro _; exact .any a l c
def Inv (h : Nat) (σ : AS) : Prop := ∀ i cs, i < h → σ.st[i]? = some (.cells cs) → AVs.inb h cs = true
theorem SR.inv {ρ : Rho} {σ : AS} {w : World} (s : SR ρ σ w) : Inv σ.st.length σ := by
  intro i cs hi hc
  obtain ⟨p, hp, ho⟩ := s.obj (.st i) (.cells cs) hc
  obtain ⟨_, _, vs, E, _, hl, hv⟩ := ho
  rw [AVs.inb_iff]
  intro c hcm
  obtain ⟨j, hj, rfl⟩ := List.getElem_of_mem hcm
  exact (hv j _ (vs[j]'(by omega)) (by simp) (by simp)).inb s.dom
def AS.cut (σ : AS) (h : Nat) : AS := { σ with st := σ.st.take h }
theorem AS.get_cut {σ : AS} {h : Nat} {L : Loc} : (σ.cut h).get L = if L.inb h = true then σ.get L else none := by
  cases L with
  | hp i => simp [AS.cut, AS.get, Loc.inb]
  | st i =>
    simp only [AS.cut, AS.get, Loc.inb, decide_eq_true_eq, List.getElem?_take]
theorem SR.cut {ρ : Rho} {σ : AS} {w : World} {h : Nat} (s : SR ρ σ w) (hi : Inv h σ) : SR (ρ.cut h) (σ.cut h) w := by
  refine ⟨⟨fun L ob ho hnd => ?_⟩, fun L p hp => ?_, fun L L' p p' h1 h2 l1 l2 e => ?_, fun L p h1 l1 => ?_, fun i cs hc => ?_, fun L p h1 l1 => ?_, s.resl, fun x hx => ⟨(s.glb x hx).1, (s.glb x hx).2.1.cut, (s.glb x hx).2.2⟩⟩
  · rw [AS.get_cut] at ho
    split at ho
    · rename_i hL
      obtain ⟨p, hp, hob⟩ := s.objD L ob ho hnd
      refine ⟨p, by simp [Rho.cut, hL, hp], ?_⟩
      cases ob with
      | cells cs =>
        obtain ⟨a, b, vs, E, hw, hl, hv⟩ := hob
        refine ⟨a, b, vs, E, hw, hl, fun i c v hc hv' => (hv i c v hc hv').cut ?_⟩
        cases L with
        | hp k => exact AV.inb_mono (Nat.zero_le _) _ (cell_inb (s.hin k cs ho) hc)
        | st k => exact cell_inb (hi k cs (by simpa [Loc.inb] using hL) ho) hc
      | row es sz v fro =>
        obtain ⟨a1, a2, a3, a4, a5, a6, a7, a8, vs, E, fz, hw, hsz, hfz, hv⟩ := hob
        exact ⟨a1, a2, a3, a4, a5, a6, a7, fun h => ⟨(a8 h).1.cut, (a8 h).2⟩, vs, E, fz, hw, hsz, hfz, fun i e j c u he hc hu => (hv i e j c u he hc hu).cut
          (AV.inb_mono (Nat.zero_le _) _ (cell_inb (okE_inb (a7 e (getElem?_mem' he))) hc))⟩
      | map es =>
        obtain ⟨a, b, arr, clock, hw, hl, hst, hv⟩ := hob
        refine ⟨a, b, arr, clock, hw, hl, hst, fun i e m he hm => ?_⟩
        obtain ⟨i1, i2, v1, v2⟩ := hv i e m he hm
        exact ⟨i1, i2, v1.cut (AV.inb_mono (Nat.zero_le _) _ i1), v2.cut (AV.inb_mono (Nat.zero_le _) _ i2)⟩
      | iter m =>
        obtain ⟨a, b, i1, mb, since, seen, last, hw, hv⟩ := hob
        exact ⟨a, b, i1, mb, since, seen, last, hw, hv.cut (AV.inb_mono (Nat.zero_le _) _ i1)⟩
      | dead => exact hob
    · cases ho
  · obtain ⟨hL, hp⟩ := Rho.cut_some hp
    obtain ⟨ob, hob⟩ := s.dom L p hp
    exact ⟨ob, by rw [AS.get_cut, if_pos hL]; exact hob⟩
  · exact s.inj L L' p p' (Rho.cut_some h1).2 (Rho.cut_some h2).2 l1 l2 e
  · exact s.lt L p (Rho.cut_some h1).2 l1
  · rw [AS.get_cut] at hc
    exact s.hin i cs (by simpa [Loc.inb] using hc)
  · exact s.nres L p (Rho.cut_some h1).2 l1
theorem Ext.cut {ρ : Rho} {w : World} {ρ' : Rho} {w' : World} (x : Ext ρ w ρ' w') {h : Nat} (hd : ∀ L p, ρ L = some p → L.inb h = true) : Ext ρ w (ρ'.cut h) w' := by
  refine ⟨fun L p hp => ?_, fun b hb hf => ⟨(x.free b hb hf).1.cut, (x.free b hb hf).2⟩, x.res, x.size, x.os, x.tape, x.output⟩
  obtain ⟨p', e, r⟩ := x.loc L p hp
  exact ⟨p', by simp [Rho.cut, hd L p hp, e], r⟩
theorem SR.doml {ρ : Rho} {σ : AS} {w : World} (s : SR ρ σ w) : ∀ L p, ρ L = some p → L.inb σ.st.length = true := fun L p h => by
  obtain ⟨ob, ho⟩ := s.dom L p h
  cases L with
  | hp i => rfl
  | st i => simp only [Loc.inb, decide_eq_true_eq]; simp only [AS.get] at ho; exact (List.getElem?_eq_some_iff.1 ho).1
end Go.Abs
end
section
namespace Go.Abs
structure ER (ρ : Rho) (w : World) (env : Env) (tmps : Array Value) : Prop where
  len : env.length = tmps.size
  val : ∀ (t : Nat) (c : AV) (v : Value), env[t]? = some c → tmps[t]? = some v → VR ρ w c v
theorem ER.get {ρ : Rho} {w : World} {env : Env} {tmps : Array Value} (h : ER ρ w env tmps) (t : Nat) : VR ρ w (env.get t) (tmps.getD t undef) := by
  rcases Nat.lt_or_ge t env.length with hl | hl
  · have h1 : env[t]? = some env[t] := List.getElem?_eq_getElem hl
    have h2 : tmps[t]? = some (tmps[t]'(by rw [← h.len]; exact hl)) := Array.getElem?_eq_getElem _
    have := h.val t _ _ h1 h2
    simpa [Env.get, List.getD, h1, Array.getD_eq_getD_getElem?, h2] using this
  · have h1 : env[t]? = none := List.getElem?_eq_none hl
    have h2 : tmps[t]? = none := Array.getElem?_eq_none (by rw [← h.len]; exact hl)
    simp only [Env.get, List.getD, h1, Array.getD_eq_getD_getElem?, h2, Option.getD_none]
    exact .tup [] #[] rfl (fun i c v hc => by simp at hc)
theorem ER.mono {ρ : Rho} {w : World} {ρ' : Rho} {w' : World} (x : Ext ρ w ρ' w') {env : Env} {tmps : Array Value} (h : ER ρ w env tmps) : ER ρ' w' env tmps :=
  ⟨h.len, fun t c v hc hv => (h.val t c v hc hv).mono x⟩
theorem ER.put {ρ : Rho} {w : World} {env : Env} {a : Act} (h : ER ρ w env a.tmps) {dst : Option Tmp} {c : AV} {v : Value} (hv : VR ρ w c v) : ER ρ w (putE env dst c) (a.put dst v).tmps := by
  cases dst with
  | none => exact h
  | some d =>
    refine ⟨by simp [putE, Act.put, h.len], fun t c' v' hc hv' => ?_⟩
    simp only [putE, Act.put] at hc hv'
    by_cases e : d = t
    · subst e
      rw [List.getElem?_set] at hc
      rw [Array.getElem?_setIfInBounds] at hv'
      simp only [if_true] at hc hv'
      split at hc
      · split at hv'
        · cases hc; cases hv'; exact hv
        · cases hv'
      · cases hc
    · rw [List.getElem?_set_ne e] at hc
      rw [Array.getElem?_setIfInBounds_ne e] at hv'
      exact h.val t c' v' hc hv'
section
variable {P : Program} {ρ : Rho} {w : World} {σ : AS}
theorem ofCell_sound {v : Value} {c : AV} (h : ofCell v = some c) : VR ρ w c v := by
  unfold ofCell at h
  split at h <;> (first | (cases h; first | exact .bool _ | exact .int _ _ | exact .str _ | exact .nilp | exact .nils | exact .nilm | exact .nilf | exact .nili) | cases h)
theorem ofCells_sound : ∀ (vs : List Value) (cs : List AV), ofCells vs = some cs → VRs ρ w cs vs
  | [], cs, h => by
    simp only [ofCells, Option.some.injEq] at h
    subst h
    exact ⟨rfl, fun i c v hc => by simp at hc⟩
  | v :: vs, cs, h => by
    simp only [ofCells] at h
    split at h
    · rename_i a as h1 h2
      cases h
      obtain ⟨l, ih⟩ := ofCells_sound vs as h2
      refine ⟨by simp [l], fun i c u hc hu => ?_⟩
      cases i with
      | zero => simp at hc hu; subst hc; subst hu; exact ofCell_sound h1
      | succ i => simp at hc hu; exact ih i c u hc hu
    · cases h
theorem ofV_sound {v : Value} {c : AV} (h : ofV v = some c) : VR ρ w c v := by
  unfold ofV at h
  split at h
  · rename_i cs
    cases hc : ofCells cs.toList with
    | none => simp [hc] at h
    | some l =>
      simp only [hc, Option.map_some, Option.some.injEq] at h
      subst h
      obtain ⟨l1, l2⟩ := ofCells_sound (ρ := ρ) (w := w) _ _ hc
      exact .agg l cs (by simpa using l1) (fun i c v h1 h2 => l2 i c v h1 (by simpa using h2))
  · rename_i vs
    split at h
    · rename_i h0
      cases h
      have : vs = #[] := by simpa using h0
      subst this
      exact .tup [] #[] rfl (fun i c v hc => by simp at hc)
    · cases h
  · exact ofCell_sound h
theorem ev_sound {env : Env} {a : Act} (h : ER ρ w env a.tmps) {x : Operand} {c : AV} (hx : ev env x = some c) : VR ρ w c (a.eval x) := by
  cases x with
  | tmp t => simp only [ev, Option.some.injEq] at hx; subst hx; exact h.get t
  | const v => exact ofV_sound hx
  | func f =>
    simp only [ev, Option.some.injEq] at hx; subst hx
    exact .fn _ [] [] #[] #[] rfl rfl (fun i c v hc => by simp at hc) (fun i c v hc => by simp at hc)
  | global g => simp [ev] at hx
theorem evs_sound {env : Env} {a : Act} (h : ER ρ w env a.tmps) : ∀ {xs : List Operand} {cs : List AV}, evs env xs = some cs → VRs ρ w cs (xs.map a.eval)
  | [], cs, hx => by simp only [evs, Option.some.injEq] at hx; subst hx; exact ⟨rfl, fun i c v hc => by simp at hc⟩
  | x :: xs, cs, hx => by
    simp only [evs] at hx
    split at hx
    · rename_i v vs h1 h2
      cases hx
      obtain ⟨l, ih⟩ := evs_sound h h2
      refine ⟨by simpa using l, fun i c u hc hu => ?_⟩
      cases i with
      | zero => simp at hc hu; subst hc; subst hu; exact ev_sound h h1
      | succ i => simp only [List.getElem?_cons_succ, List.map_cons] at hc hu; exact ih i c u hc hu
    · cases hx
theorem evps_sound {env : Env} {a : Act} (h : ER ρ w env a.tmps) : ∀ {xs : List (Nat × Operand)} {cs : List (Nat × AV)}, evps env xs = some cs →
    cs.map (·.1) = xs.map (·.1) ∧ VRs ρ w (cs.map (·.2)) (xs.map fun p => a.eval p.2)
  | [], cs, hx => by simp only [evps, Option.some.injEq] at hx; subst hx; exact ⟨rfl, rfl, fun i c v hc => by simp at hc⟩
  | (i, x) :: xs, cs, hx => by
    simp only [evps] at hx
    split at hx
    · rename_i v vs h1 h2
      cases hx
      obtain ⟨l0, l, ih⟩ := evps_sound h h2
      refine ⟨by simp [l0], by simpa using l, fun i c u hc hu => ?_⟩
      cases i with
      | zero => simp at hc hu; subst hc; subst hu; exact ev_sound h h1
      | succ i => simp only [List.getElem?_cons_succ, List.map_cons] at hc hu; exact ih i c u hc hu
    · cases hx
theorem run_und {t : TypeId} {d : TypeDesc} (h : P.underlying t = some d) (w : World) : (underlying t).run P w = .ok d w := run_underlying h w
theorem run_sizeA {t : TypeId} {n : Nat} (h : sizeA P t = some n) (w : World) : (sizeOf t).run P w = .ok n w := by
  unfold sizeA at h
  cases hi : P.info? t with
  | none => simp [hi] at h
  | some i => simp only [hi, Option.map_some, Option.some.injEq] at h; subst h; simp [sizeOf, typeInfo, hi]
theorem run_bytesA {t : TypeId} {n : Nat} (h : bytesA P t = some n) (w : World) : ∃ i, (typeInfo t).run P w = .ok i w ∧ i.bytes = n := by
  unfold bytesA at h
  cases hi : P.info? t with
  | none => simp [hi] at h
  | some i => simp only [hi, Option.map_some, Option.some.injEq] at h; exact ⟨i, by simp [typeInfo, hi], h⟩
theorem run_zeroA {t : TypeId} {c : AV} (h : zeroA P t = some c) (w : World) : ∃ v, (zeroValue t).run P w = .ok v w ∧ ofV v = some c := by
  unfold zeroA at h
  cases hi : P.info? t with
  | none => simp [hi] at h
  | some i =>
    cases hz : i.zero with
    | none => simp [hi, hz] at h
    | some v => simp [hi, hz] at h; exact ⟨v, by simp [zeroValue, typeInfo, hi, hz], h⟩
theorem run_aggA {t : TypeId} {b : Bool} (h : aggA P t = some b) (w : World) : (isAgg t).run P w = .ok b w := by
  unfold aggA at h
  cases hd : P.underlying t with
  | none => simp [hd] at h
  | some d =>
    simp only [hd, Option.map_some, Option.some.injEq] at h
    subst h
    unfold isAgg
    rw [Sem.run_bind, run_underlying hd w]
    cases d <;> simp [isAggD]
theorem part_sound {t : TypeId} {cs : List AV} {vs : Array Value} (hl : cs.length = vs.size)
    (hv : ∀ (i : Nat) (c : AV) (v : Value), cs[i]? = some c → vs[i]? = some v → VR ρ w c v) {o : Nat} {c : AV} (h : partA P t cs o = some c) (w' : World) :
    ∃ u, (part t vs o).run P w' = .ok u w' ∧ VR ρ w c u := by
  unfold partA at h
  split at h
  · rename_i ha
    split at h
    · rename_i n hn
      split at h
      · rename_i hle
        cases h
        refine ⟨.agg (vs.extract o (o + n)), by simp [part, run_aggA ha, run_sizeA hn], .agg _ _ (by simp; omega) fun i c v hc hv' => ?_⟩
        rw [List.getElem?_take] at hc
        split at hc
        · rename_i hi
          rw [List.getElem?_drop] at hc
          rw [Array.getElem?_extract] at hv'
          split at hv'
          · exact hv _ _ _ hc hv'
          · cases hv'
        · cases hc
      · cases h
    · cases h
  · rename_i ha
    have hlt : o < cs.length := (List.getElem?_eq_some_iff.1 h).1
    have h2 : vs[o]? = some (vs[o]'(by omega)) := Array.getElem?_eq_getElem _
    exact ⟨_, by simp [part, run_aggA ha, h2], hv o c _ h h2⟩
  · cases h
def CellsAt (ρ : Rho) (w : World) (b o : Nat) (cs : List AV) : Prop :=
  ∃ f : Nat → Value, ∀ (j : Nat) (c : AV), cs[j]? = some c → w.cell? ⟨b, o + j, none⟩ = some (f j) ∧ VR ρ w c (f j)
theorem add_mk (b o n : Nat) : (⟨b, o, none⟩ : Addr).add n = ⟨b, o + n, none⟩ := by unfold Addr.add; split <;> simp_all
theorem loadCells_sound {b o : Nat} {cs : List AV} (h : CellsAt ρ w b o cs) : ∃ vs : Array Value, (loadCells ⟨b, o, none⟩ cs.length).run P w = .ok vs w ∧ cs.length = vs.size ∧
    ∀ (i : Nat) (c : AV) (v : Value), cs[i]? = some c → vs[i]? = some v → VR ρ w c v := by
  obtain ⟨f, hf⟩ := h
  have hlen : ((List.range cs.length).map f).length = cs.length := by simp
  have := run_loadCells_list (P := P) w ⟨b, o, none⟩ ((List.range cs.length).map f) (fun j v hj => by
    rw [add_mk]
    simp only [List.getElem?_map] at hj
    rcases Nat.lt_or_ge j cs.length with hl | hl
    · rw [List.getElem?_range hl] at hj
      simp only [Option.map_some, Option.some.injEq] at hj
      rw [← hj]
      exact (hf j _ (List.getElem?_eq_getElem hl)).1
    · rw [List.getElem?_eq_none (by simpa using hl)] at hj; cases hj)
  rw [hlen] at this
  refine ⟨_, this, by simp, fun i c v hc hv => ?_⟩
  have hl : i < cs.length := (List.getElem?_eq_some_iff.1 hc).1
  simp only [List.getElem?_toArray, List.getElem?_map, List.getElem?_range hl, Option.map_some, Option.some.injEq] at hv
  rw [← hv]
  exact (hf i c hc).2
theorem CellsAt.sub {b o : Nat} {cs : List AV} (h : CellsAt ρ w b o cs) (k n : Nat) : CellsAt ρ w b (o + k) ((cs.drop k).take n) := by
  obtain ⟨f, hf⟩ := h
  refine ⟨fun j => f (k + j), fun j c hc => ?_⟩
  rw [List.getElem?_take] at hc
  split at hc
  · rw [List.getElem?_drop] at hc
    rw [Nat.add_assoc]
    exact hf _ _ hc
  · cases hc
theorem loadVar_sound {b o k : Nat} {t : TypeId} {cs : List AV} {c : AV} (h : CellsAt ρ w b o cs) (hp : partA P t cs k = some c) :
    ∃ u, (loadVar t ⟨b, o + k, none⟩).run P w = .ok u w ∧ VR ρ w c u := by
  unfold partA at hp
  split at hp
  · rename_i ha
    split at hp
    · rename_i n hn
      split at hp
      · rename_i hle
        cases hp
        obtain ⟨vs, h1, h2, h3⟩ := loadCells_sound (P := P) (h.sub k n)
        have e : ((cs.drop k).take n).length = n := by simp; omega
        rw [e] at h1
        exact ⟨.agg vs, by simp [loadVar, run_aggA ha, run_sizeA hn, h1], .agg _ _ h2 h3⟩
      · cases hp
    · cases hp
  · rename_i ha
    obtain ⟨f, hf⟩ := h
    obtain ⟨h1, h2⟩ := hf k c hp
    exact ⟨f k, by simp [loadVar, run_aggA ha, h1], h2⟩
  · cases hp
theorem cellsAt_obj (s : SRo ρ σ w) {L : Loc} {cs : List AV} (h : σ.get L = some (.cells cs)) : ∃ p, ρ L = some p ∧ p.row = false ∧ CellsAt ρ w p.b 0 cs := by
  obtain ⟨p, hp, _, hr, vs, E, hw, hl, hv⟩ := s.obj L _ h
  refine ⟨p, hp, hr, fun j => vs.getD j undef, fun j c hc => ?_⟩
  have hj : j < vs.size := by rw [← hl]; exact (List.getElem?_eq_some_iff.1 hc).1
  have h2 : vs[j]? = some vs[j] := Array.getElem?_eq_getElem hj
  simp only [Nat.zero_add, World.cell?, hw, Option.isSome_none, Bool.false_eq_true, if_false, Array.getD_eq_getD_getElem?, h2, Option.getD_some]
  exact ⟨trivial, hv j c _ hc h2⟩
theorem rowEnd {es : List AV} {i j sz : Nat} {e c : AV} (he : es[i]? = some e) (hc : e.cells[j]? = some c) (hs : e.cells.length = sz) : i * sz + j < es.length * sz := by
  have h1 : i < es.length := (List.getElem?_eq_some_iff.1 he).1
  have h2 : j < sz := by rw [← hs]; exact (List.getElem?_eq_some_iff.1 hc).1
  have h3 : (i + 1) * sz ≤ es.length * sz := Nat.mul_le_mul_right _ h1
  rw [Nat.add_mul] at h3
  omega
theorem cellsAt_row (s : SRo ρ σ w) {L : Loc} {es : List AV} {sz v : Nat} {fro : Bool} (h : σ.get L = some (.row es sz v fro)) {i : Nat} {e : AV} (he : es[i]? = some e) :
    ∃ p, ρ L = some p ∧ p.row = true ∧ p.ver = v ∧ p.sz = sz ∧ CellsAt ρ w p.b (p.o + i * sz) e.cells := by
  obtain ⟨p, hp, hr, hv, hsz, hpos, hlive, hcap, hok, hfr, vs, E, fz, hw, hle, hfz, hval⟩ := s.obj L _ h
  refine ⟨p, hp, hr, hv, hsz, fun j => vs.getD (p.o + i * sz + j) undef, fun j c hc => ?_⟩
  have h1 := rowEnd he hc (okE_len (hok e (getElem?_mem' he)))
  have h2 : es.length * sz ≤ p.cap * sz := Nat.mul_le_mul_right _ hcap
  have hj : p.o + i * sz + j < vs.size := by omega
  have h3 : vs[p.o + i * sz + j]? = some vs[p.o + i * sz + j] := Array.getElem?_eq_getElem hj
  simp only [World.cell?, hw, Option.isSome_none, Bool.false_eq_true, if_false, Array.getD_eq_getD_getElem?, h3, Option.getD_some]
  exact ⟨trivial, hval i e j c _ he hc h3⟩
theorem loadA_sound (s : SRo ρ σ w) {t : TypeId} {x c : AV} {v : Value} (hx : VR ρ w x v) (h : loadA P σ t x = some c) :
    ∃ u, (Instr.loadAt t v).run P w = .ok u w ∧ VR ρ w c u := by
  unfold loadA at h
  split at h
  · rename_i L o
    split at h
    · rename_i cs hg
      obtain ⟨p, hp, hr, hc⟩ := cellsAt_obj s hg
      cases hx with
      | ptr L o p' h' hr' =>
        have : p' = p := Option.some.inj (h'.symm.trans hp)
        subst this
        obtain ⟨u, h1, h2⟩ := loadVar_sound (P := P) hc h
        rw [Nat.zero_add] at h1
        exact ⟨u, by simp [Instr.loadAt, Instr.sureAddr, h1], h2⟩
    · cases h
  · rename_i cs o
    cases hx with
    | rptr cs o b o0 f hb hf h1 h2 h3 =>
      obtain ⟨u, g1, g2⟩ := loadVar_sound (P := P) (ρ := ρ) (w := w) (b := b) (o := o0) ⟨f, fun j c hc => ⟨h1 j c hc, h2 j c hc⟩⟩ h
      exact ⟨u, by simp [Instr.loadAt, Instr.sureAddr, g1], g2⟩
  · rename_i L v i o
    split at h
    · rename_i es sz v' fro hg
      split at h
      · rename_i hvv
        subst hvv
        split at h
        · rename_i e he
          obtain ⟨p, hp, hr, hv, hsz, hc⟩ := cellsAt_row s hg he
          cases hx with
          | eptr L v i o p' a h' hr' hv' ha =>
            have : p' = p := Option.some.inj (h'.symm.trans hp)
            subst this
            have := ha hv
            subst this
            obtain ⟨u, g1, g2⟩ := loadVar_sound (P := P) hc h
            rw [hsz]
            exact ⟨u, by simp [Instr.loadAt, Instr.sureAddr, g1], g2⟩
        · cases h
      · cases h
    · cases h
  · cases h
end
end Go.Abs
end
section
namespace Go.Abs
theorem beqS_eq (x y : ByteArray) : beqS x y = (x.toList == y.toList) := by
  rw [ByteArray.toList_eq, ByteArray.toList_eq]; rfl
theorem ltS_eq (x y : ByteArray) : ltS x y = Op.bytesLess x.toList y.toList := by
  rw [ByteArray.toList_eq, ByteArray.toList_eq]; rfl
theorem wr_eq (k : IntKind) (n : Int) : wr k n = k.wrap n := by
  unfold wr
  split
  · rename_i h
    simp only [Bool.and_eq_true, decide_eq_true_eq] at h
    obtain ⟨h1, h2⟩ := h
    cases k <;> simp only [loK, hiK, IntKind.wrap, IntKind.bits, IntKind.signed] at * <;> simp <;> omega
  · rfl
section
variable {P : Program} {ρ : Rho} {w : World} {σ : AS}
theorem VR.bool_inv {b : Bool} {v : Value} (h : VR ρ w (.bool b) v) : v = .bool b := by cases h; rfl
theorem VR.int_inv {k : IntKind} {n : Int} {v : Value} (h : VR ρ w (.int k n) v) : v = .int k n := by cases h; rfl
theorem VR.str_inv {s : ByteArray} {v : Value} (h : VR ρ w (.str s) v) : v = .string s := by cases h; rfl
theorem eqFieldsA_sound {eq : TypeId → AV → AV → Option Bool} {d : Nat} {xs ys : List AV} {us vs : Array Value}
    (heq : ∀ t a b r u v, eq t a b = some r → VR ρ w a u → VR ρ w b v → (Op.equalIn d t u v).run P w = .ok r w)
    (hx : VR ρ w (.agg xs) (.agg us)) (hy : VR ρ w (.agg ys) (.agg vs)) : ∀ (fs : List Field) (r : Bool), eqFieldsA P eq xs ys fs = some r → (Op.eqFields d us vs fs).run P w = .ok r w
  | [], r, h => by simp only [eqFieldsA, Option.some.injEq] at h; subst h; simp [Op.eqFields]
  | f :: fs, r, h => by
    have ih := eqFieldsA_sound heq hx hy fs
    cases hx with
    | agg _ _ lx hxs => cases hy with
      | agg _ _ ly hys =>
        simp only [eqFieldsA] at h
        split at h
        · rename_i hn
          simp only [Op.eqFields, hn, ne_eq, not_true_eq_false, if_false]
          exact ih r h
        · rename_i hn
          split at h
          · rename_i a b ha hb
            obtain ⟨u, u1, u2⟩ := part_sound lx hxs ha w
            obtain ⟨v, v1, v2⟩ := part_sound ly hys hb w
            simp only [Op.eqFields, ne_eq, hn, not_false_eq_true, if_true, Sem.run_bind, u1, Result.andThen_ok, v1]
            split at h
            · rename_i hr
              rw [heq _ _ _ _ _ _ hr u2 v2]
              simp only [Result.andThen_ok, Bool.not_true, Bool.false_eq_true, if_false]
              exact ih r h
            · rename_i hr
              cases h
              rw [heq _ _ _ _ _ _ hr u2 v2]
              simp
            · cases h
          · cases h
set_option maxHeartbeats 2000000 in
theorem eqA_sound : ∀ (n : Nat) (t : TypeId) (x y : AV) (b : Bool) (u v : Value), eqA P n t x y = some b → VR ρ w x u → VR ρ w y v →
    ∀ d, n ≤ d → (Op.equalIn d t u v).run P w = .ok b w
  | 0, _, _, _, _, _, _, h, _, _ => by simp [eqA] at h
  | n + 1, t, x, y, b, u, v, h, hx, hy => by
    have ih := eqA_sound n
    intro d hd
    obtain ⟨d, rfl⟩ : ∃ e, d = e + 1 := ⟨d - 1, by omega⟩
    have hd' : n ≤ d := by omega
    simp only [eqA] at h
    split at h
    case h_1 ht => cases h; cases hx; cases hy; simp [Op.equalIn, run_underlying ht]
    case h_2 ht =>
      split at h
      · rename_i hk; cases h; cases hx; cases hy; subst hk; simp [Op.equalIn, run_underlying ht]
      · cases h
    case h_3 ht => cases h; cases hx; cases hy; rw [run_equalIn_string w d t _ _ ht, beqS_eq]
    case h_4 fs xs ys ht =>
      split at h
      · cases h
      · rename_i hst
        have hf : P.fieldsOf t = fs := by simp [Program.fieldsOf, ht]
        cases hx with
        | agg _ us lx hxs => cases hy with
          | agg _ vs ly hys =>
            rw [run_equalIn_struct w d t us vs (by rw [hf]; exact ht) (by simpa using hst), hf]
            exact eqFieldsA_sound (fun t a b r u v h1 h2 h3 => ih t a b r u v h1 h2 h3 d hd') (.agg _ _ lx hxs) (.agg _ _ ly hys) _ _ h
    case h_26 tx vx ty vy ht =>
      cases hx with
      | iface _ _ vx' hx => cases hy with
        | iface _ _ vy' hy =>
          split at h
          · rename_i e
            subst e
            split at h
            · rename_i hc
              cases hi : P.info? tx with
              | none => simp [hi] at hc
              | some i =>
                simp only [hi, Option.map_some, Option.some.injEq] at hc
                have := ih _ _ _ _ _ _ h hx hy d hd'
                simp [Op.equalIn, run_underlying ht, typeInfo, hi, hc, this]
            · cases h
          · rename_i e
            cases h
            simp [Op.equalIn, run_underlying ht, e]
    all_goals first
      | (rename_i ht; cases h; cases hx; cases hy; simp [Op.equalIn, run_underlying ht]; done)
      | cases h
end
end Go.Abs
end
section
namespace Go.Abs
section
variable {P : Program} {ρ : Rho} {w : World} {σ : AS}
theorem intBinA_sound {op : BinOp} {k : IntKind} {a b : Int} {c : AV} (h : intBinA op k a b = some c) (t : TypeId) (hs : (op == .shl || op == .shr) = false) :
    ∃ u, (binOp op t (.int k a) (.int k b)).run P w = .ok u w ∧ VR ρ w c u := by
  cases op <;> simp only [intBinA] at h <;> (try (simp at hs; done)) <;>
    first
    | (cases h; refine ⟨_, by simp only [binOp, ne_eq, not_true_eq_false, if_false, Op.intArith, Op.intBits, Op.intCmp]; rfl, ?_⟩; first | exact .bool _ | (rw [wr_eq]; exact .int _ _))
    | (split at h
       · cases h
       · rename_i hb
         cases h
         refine ⟨_, by simp [binOp, Op.intDiv, hb]; rfl, ?_⟩
         first | exact .int _ _ | (rw [wr_eq]; exact .int _ _))
    | (cases h; done)
theorem shiftA_sound {op : BinOp} {k k' : IntKind} {a b : Int} {c : AV} (h : shiftA op k a b = some c) (t : TypeId) (hs : (op == .shl || op == .shr) = true) :
    ∃ u, (binOp op t (.int k a) (.int k' b)).run P w = .ok u w ∧ VR ρ w c u := by
  unfold shiftA at h
  split at h
  · cases h
  · rename_i hb
    cases op <;> (try (simp at hs; done)) <;> simp only [Option.some.injEq] at h <;> subst h
    · exact ⟨_, by simp only [binOp, Op.shift, hb, if_false]; rfl, by rw [wr_eq]; exact .int _ _⟩
    · exact ⟨_, by simp only [binOp, Op.shift, hb, if_false]; rfl, .int _ _⟩
theorem strBinA_sound {op : BinOp} {a b : ByteArray} {c : AV} (h : strBinA op a b = some c) (t : TypeId) :
    ∃ u, (binOp op t (.string a) (.string b)).run P w = .ok u w ∧ VR ρ w c u := by
  cases op <;> simp only [strBinA] at h <;> (try (cases h; done)) <;>
    first
    | (cases h; refine ⟨_, by simp only [binOp, Op.stringOp]; rfl, ?_⟩; rw [← beqS_eq, ← ltS_eq]; exact .bool _)
    | (cases h; refine ⟨_, by simp only [binOp, Op.stringOp]; rfl, ?_⟩; rw [← beqS_eq]; exact .bool _)
    | (cases h; refine ⟨_, by simp only [binOp, Op.stringOp]; rfl, ?_⟩; rw [← ltS_eq]; exact .bool _)
    | (split at h
       · rename_i hle
         cases h
         have hn : ¬ (((a.size + b.size : Nat) : Int) > IntKind.i64.max) := by simp [IntKind.max, IntKind.bits, IntKind.signed]; omega
         exact ⟨.string (a ++ b), by simp only [binOp, Op.stringOp]; rw [if_neg hn]; rfl, .str _⟩
       · cases h)
theorem VR.no_float {a : AV} {k : FloatKind} {n : Nat} (h : VR ρ w a (.float k n)) : False := by cases h
theorem VR.no_complex {a : AV} {k : FloatKind} {n m : Nat} (h : VR ρ w a (.complex k n m)) : False := by cases h
theorem VR.of_int {a : AV} {k : IntKind} {n : Int} (h : VR ρ w a (.int k n)) : a = .int k n := by cases h; rfl
theorem VR.of_string {a : AV} {s : ByteArray} (h : VR ρ w a (.string s)) : a = .str s := by cases h; rfl
theorem VR.of_bool {a : AV} {b : Bool} (h : VR ρ w a (.bool b)) : a = .bool b := by cases h; rfl
theorem VR.of_nilIface {a : AV} (h : VR ρ w a .nilIface) : a = .nili := by cases h; rfl
theorem VR.of_agg {a : AV} {vs : Array Value} (h : VR ρ w a (.agg vs)) : ∃ cs, a = .agg cs := by cases h; exact ⟨_, rfl⟩
theorem binOp_eql {t : TypeId} {a b : AV} {u v : Value} (hu : VR ρ w a u) (hv : VR ρ w b v) (hi : ∀ k m k' n, a = .int k m → b = .int k' n → False)
    (hs : ∀ m n, a = .str m → b = .str n → False) : binOp .eql t u v = (do pure (.bool (← Op.equal t u v))) ∧ binOp .neq t u v = (do pure (.bool (!(← Op.equal t u v)))) := by
  constructor
  all_goals
    unfold binOp
    split <;> first
      | rfl
      | (exfalso; exact hi _ _ _ _ hu.of_int hv.of_int)
      | (exfalso; exact hs _ _ hu.of_string hv.of_string)
      | (exfalso; exact hu.no_float)
      | (exfalso; exact hu.no_complex)
      | (rename_i h; cases h; done)
      | simp_all
theorem eqGuard_sound {op : BinOp} {t : TypeId} {x y : Operand} {a b : AV} {u v : Value} (hu : VR ρ w a u) (hv : VR ρ w b v) (h : guardOk P t x y a b = true) :
    (eqGuard op t x y u v).run P w = .ok () w := by
  have key : (match u, v with
      | Value.nilIface, Value.nilIface => do
        if (x matches .const _) || (y matches .const _) then return
        if ← Op.eqGuardIn Op.maxDepth t u v then unsupported (.noEntry "binop/eql: two nil values of an interface type with methods, neither of them the literal nil")
      | .agg _, .agg _ => do
        if !(← program).eqGuardType (← program).depth t then return
        if ← Op.eqGuardIn Op.maxDepth t u v then unsupported (.noEntry "binop/eql: two nil values of an interface type with methods, in a part of a struct or an array")
      | _, _ => (pure () : Sem Unit)).run P w = .ok () w := by
    split
    · have h1 := hu.of_nilIface
      have h2 := hv.of_nilIface
      subst h1; subst h2
      simp only [guardOk, Bool.or_eq_true] at h
      rcases h with h | h
      · cases x <;> simp [isConst] at h ⊢
      · cases y <;> simp [isConst] at h ⊢
    · obtain ⟨cs, rfl⟩ := hu.of_agg
      obtain ⟨ds, rfl⟩ := hv.of_agg
      simp only [guardOk, Bool.not_eq_true'] at h
      simp [h]
    · simp
  unfold eqGuard
  cases op <;> first | rfl | exact key
theorem binA_sound {op : BinOp} {t : TypeId} {x y : Operand} {a b c : AV} {u v : Value} (hu : VR ρ w a u) (hv : VR ρ w b v) (h : binA P op t x y a b = some c) :
    ∃ r, (do eqGuard op t x y u v; binOp op t u v : Sem Value).run P w = .ok r w ∧ VR ρ w c r := by
  unfold binA at h
  split at h
  · rename_i k m k' n
    have h1 := hu.int_inv; have h2 := hv.int_inv; subst h1; subst h2
    have hg : (eqGuard op t x y (.int k m) (.int k' n)).run P w = .ok () w := eqGuard_sound hu hv rfl
    simp only [Sem.run_bind, hg, Result.andThen_ok]
    split at h
    · rename_i hs; exact shiftA_sound h t hs
    · rename_i hs
      split at h
      · rename_i hk; subst hk; exact intBinA_sound h t (by simpa using hs)
      · cases h
  · rename_i m n
    have h1 := hu.str_inv; have h2 := hv.str_inv; subst h1; subst h2
    have hg : (eqGuard op t x y (.string m) (.string n)).run P w = .ok () w := eqGuard_sound hu hv rfl
    simp only [Sem.run_bind, hg, Result.andThen_ok]
    exact strBinA_sound h t
  · rename_i h1 h2
    have he := binOp_eql (t := t) hu hv (fun k m k' n e1 e2 => h1 k m k' n e1 e2) (fun m n e1 e2 => h2 m n e1 e2)
    split at h
    · split at h
      · rename_i hg
        cases hq : eqA P 40 t a b with
        | none => simp [hq] at h
        | some r =>
          simp only [hq, Option.map_some, Option.some.injEq] at h
          subst h
          refine ⟨.bool r, ?_, .bool r⟩
          rw [Sem.run_bind, eqGuard_sound hu hv hg, Result.andThen_ok, he.1]
          simp [Op.equal, eqA_sound _ _ _ _ _ _ _ hq hu hv Op.maxDepth (by decide)]
      · cases h
    · split at h
      · rename_i hg
        cases hq : eqA P 40 t a b with
        | none => simp [hq] at h
        | some r =>
          simp only [hq, Option.map_some, Option.some.injEq] at h
          subst h
          refine ⟨.bool (!r), ?_, .bool _⟩
          rw [Sem.run_bind, eqGuard_sound hu hv hg, Result.andThen_ok, he.2]
          simp [Op.equal, eqA_sound _ _ _ _ _ _ _ hq hu hv Op.maxDepth (by decide)]
      · cases h
    · cases h
theorem unA_sound {op : UnOp} {a c : AV} {u : Value} (hu : VR ρ w a u) (h : unA op a = some c) : ∃ r, (Op.unary op u).run P w = .ok r w ∧ VR ρ w c r := by
  unfold unA at h
  split at h
  · cases h; cases hu; exact ⟨_, by simp only [Op.unary, Op.intArith]; rfl, by rw [wr_eq]; exact .int _ _⟩
  · cases h; cases hu; exact ⟨_, by simp only [Op.unary, Op.intBits]; rfl, by rw [wr_eq]; exact .int _ _⟩
  · cases h; cases hu; exact ⟨_, by simp only [Op.unary]; rfl, .bool _⟩
  · cases h
theorem fieldValA_sound {t : TypeId} {a c : AV} {u : Value} {i : Nat} (hu : VR ρ w a u) (h : fieldValA P t a i = some c) : ∃ r, (Instr.field t u i).run P w = .ok r w ∧ VR ρ w c r := by
  unfold fieldValA at h
  split at h
  · rename_i f cs hf
    cases hu with
    | agg _ vs l hv =>
      unfold fieldA at hf
      split at hf
      · rename_i fs hu
        obtain ⟨r, h1, h2⟩ := part_sound l hv h w
        exact ⟨r, by simp [Instr.field, run_underlying hu, hf, asAgg, h1], h2⟩
      · cases hf
  · cases h
theorem fieldAddrA_sound {t : TypeId} {a c : AV} {u : Value} {i : Nat} (hu : VR ρ w a u) (h : fieldAddrA P t a i = some c) : ∃ r, (Instr.fieldAt t u i).run P w = .ok r w ∧ VR ρ w c r := by
  unfold fieldAddrA at h
  split at h
  · rename_i f hf
    unfold fieldA at hf
    split at hf
    · rename_i fs hus
      split at h
      · rename_i n hn
        have hfp : ∀ b o, (fieldPlace ⟨b, o, none⟩ f).run P w = .ok ⟨b, o + f.offset, none⟩ w := fun b o => by
          unfold fieldPlace
          simp [run_sizeA hn, add_mk]
        split at h
        · rename_i L o
          cases h
          cases hu with
          | ptr _ _ p h1 h2 => exact ⟨_, by simp [Instr.fieldAt, run_underlying hus, hf, Instr.sureAddr, hfp], .ptr L _ p h1 h2⟩
        · rename_i cs o
          cases h
          cases hu with
          | rptr _ _ b o0 g hb hfr h1 h2 h3 =>
            refine ⟨_, by simp [Instr.fieldAt, run_underlying hus, hf, Instr.sureAddr, hfp]; exact rfl, ?_⟩
            rw [Nat.add_assoc]
            exact .rptr cs _ b o0 g hb hfr h1 h2 h3
        · rename_i L v i' o
          cases h
          cases hu with
          | eptr _ _ _ _ p a h1 h2 h3 h4 =>
            by_cases hv : p.ver = v
            · have := h4 hv
              subst this
              refine ⟨_, by simp [Instr.fieldAt, run_underlying hus, hf, Instr.sureAddr, hfp]; exact rfl, ?_⟩
              exact .eptr L v i' _ p _ h1 h2 h3 (fun _ => by rw [Nat.add_assoc])
            · refine ⟨.pointer (some (a.add f.offset)), ?_, .eptr L v i' _ p _ h1 h2 h3 (fun e => absurd e hv)⟩
              simp [Instr.fieldAt, run_underlying hus, hf, Instr.sureAddr, fieldPlace, run_sizeA hn]
        · cases h
      · cases h
    · cases hf
  · cases h
theorem indexA_sound {t : TypeId} {a ix c : AV} {u v : Value} (hu : VR ρ w a u) (hi : VR ρ w ix v) (h : indexA P t a ix = some c) : ∃ r, (Instr.index t u v).run P w = .ok r w ∧ VR ρ w c r := by
  unfold indexA at h
  split at h
  · rename_i k i
    cases hi
    split at h
    · rename_i h0
      split at h
      · rename_i n e cs ht
        split at h
        · rename_i sz hsz
          split at h
          · rename_i hlt
            cases hu with
            | agg _ vs l hv =>
              obtain ⟨r, h1, h2⟩ := part_sound l hv h w
              exact ⟨r, by simp [Instr.index, asIntOf, run_underlying ht, h0, hlt, run_sizeA hsz, h1], h2⟩
          · cases h
        · cases h
      · rename_i s ht
        split at h
        · rename_i b hb
          cases h
          cases hu
          obtain ⟨h1, h2⟩ := List.getElem?_eq_some_iff.1 hb
          have h3 : i.toNat < s.size := by simpa using h1
          have hb' : s[i.toNat]? = some b := by
            rw [getElem?_pos s i.toNat h3]
            congr 1
          exact ⟨.int .u8 b.toNat, by simp [Instr.index, asIntOf, run_underlying ht, h0, hb'], .int _ _⟩
        · cases h
      · cases h
    · cases h
  · cases h
end
end Go.Abs
end
