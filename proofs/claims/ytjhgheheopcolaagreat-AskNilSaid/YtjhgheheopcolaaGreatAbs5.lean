/- What abstract values and objects say of a world. -/
import Derived.Test.YtjhgheheopcolaaGreatAbs4
import Derived.Laws.World
import Derived.Laws.Rows
import Derived.MapKept
set_option linter.unusedVariables false
set_option linter.unusedSimpArgs false
namespace Go.Abs

structure Place where
  b : Nat
  o : Nat
  sz : Nat
  cap : Nat
  ver : Nat
  row : Bool
  live : Bool

/-- Where the objects lie; and blocks that are kept for what is not looked at. -/
structure Rho where
  loc : Loc → Option Place
  res : Nat → Prop
instance : CoeFun Rho (fun _ => Loc → Option Place) := ⟨Rho.loc⟩

/-- No object that may be written lies in block b. -/
def Free (ρ : Rho) (b : Nat) : Prop := (∀ L p, ρ L = some p → p.live = true → p.b ≠ b) ∧ ¬ ρ.res b

inductive VR (ρ : Rho) (w : World) : AV → Value → Prop
  | bool (b : Bool) : VR ρ w (.bool b) (.bool b)
  | int (k : IntKind) (n : Int) : VR ρ w (.int k n) (.int k n)
  | str (s : ByteArray) : VR ρ w (.str s) (.string s)
  | nilp : VR ρ w .nilp (.pointer none)
  | ptr (L : Loc) (o : Nat) (p : Place) (h : ρ L = some p) (hr : p.row = false) : VR ρ w (.ptr L o) (.pointer (some ⟨p.b, o, none⟩))
  | rptr (cs : List AV) (o b o0 : Nat) (f : Nat → Value) (hb : b < w.heap.size) (hf : Free ρ b)
      (h1 : ∀ (j : Nat) (c : AV), cs[j]? = some c → w.cell? ⟨b, o0 + j, none⟩ = some (f j)) (h2 : ∀ (j : Nat) (c : AV), cs[j]? = some c → VR ρ w c (f j))
      (h3 : AVs.inb 0 cs = true) : VR ρ w (.rptr cs o) (.pointer (some ⟨b, o0 + o, none⟩))
  | eptr (L : Loc) (v i o : Nat) (p : Place) (a : Addr) (h : ρ L = some p) (hr : p.row = true) (hv : v ≤ p.ver)
      (ha : p.ver = v → a = ⟨p.b, p.o + i * p.sz + o, none⟩) : VR ρ w (.eptr L v i o) (.pointer (some a))
  | nils : VR ρ w .nils (.slice none 0 0)
  | sl (full : Bool) (sz : Nat) (es : List AV) (a : Addr) (cap : Nat) (f : Nat → Nat → Value) (hc : es.length ≤ cap) (hfull : full = true → cap = es.length)
      (hp : es ≠ [] → a.spot = none ∧ a.block < w.heap.size ∧ Free ρ a.block)
      (hok : ∀ e ∈ es, okE sz e = true)
      (h1 : ∀ (i : Nat) (e : AV) (j : Nat) (c : AV), es[i]? = some e → e.cells[j]? = some c → w.cell? ⟨a.block, a.off + i * sz + j, none⟩ = some (f i j))
      (h2 : ∀ (i : Nat) (e : AV) (j : Nat) (c : AV), es[i]? = some e → e.cells[j]? = some c → VR ρ w c (f i j)) : VR ρ w (.sl full sz es) (.slice (some a) es.length cap)
  | row (L : Loc) (v off len : Nat) (p : Place) (a : Addr) (cap : Nat) (h : ρ L = some p) (hr : p.row = true) (hv : v ≤ p.ver) (hl : len ≤ cap)
      (ha : p.ver = v → cap + off = p.cap ∧ (0 < cap → a = ⟨p.b, p.o + off * p.sz, none⟩)) : VR ρ w (.row L v off len) (.slice (some a) len cap)
  | nilm : VR ρ w .nilm (.map none)
  | map (L : Loc) (p : Place) (h : ρ L = some p) (hr : p.row = false) : VR ρ w (.map L) (.map (some p.b))
  | fn (f : Fn) (xs ys : List AV) (vs us : Array Value) (l1 : xs.length = vs.size) (l2 : ys.length = us.size)
      (h1 : ∀ (i : Nat) (x : AV) (v : Value), xs[i]? = some x → vs[i]? = some v → VR ρ w x v) (h2 : ∀ (i : Nat) (y : AV) (u : Value), ys[i]? = some y → us[i]? = some u → VR ρ w y u) : VR ρ w (.fn f xs ys) (.func f vs us)
  | nilf : VR ρ w .nilf .nilFunc
  | iface (t : TypeId) (x : AV) (v : Value) (h : VR ρ w x v) : VR ρ w (.iface t x) (.iface t v)
  | nili : VR ρ w .nili .nilIface
  | agg (cs : List AV) (vs : Array Value) (l : cs.length = vs.size) (h : ∀ (i : Nat) (c : AV) (v : Value), cs[i]? = some c → vs[i]? = some v → VR ρ w c v) : VR ρ w (.agg cs) (.agg vs)
  | tup (cs : List AV) (vs : Array Value) (l : cs.length = vs.size) (h : ∀ (i : Nat) (c : AV) (v : Value), cs[i]? = some c → vs[i]? = some v → VR ρ w c v) : VR ρ w (.tup cs) (.tuple vs)

theorem cell_of_block {w w' : World} {a : Addr} (h : w'.heap[a.block]? = w.heap[a.block]?) : w'.cell? a = w.cell? a := by simp [World.cell?, h]

/-- Cells, one by one. -/
def VRs (ρ : Rho) (w : World) (cs : List AV) (vs : List Value) : Prop :=
  cs.length = vs.length ∧ ∀ (i : Nat) (c : AV) (v : Value), cs[i]? = some c → vs[i]? = some v → VR ρ w c v

/-- What every step does to places and world. -/
structure Ext (ρ : Rho) (w : World) (ρ' : Rho) (w' : World) : Prop where
  loc : ∀ L p, ρ L = some p → ∃ p', ρ' L = some p' ∧ p'.row = p.row ∧ p.ver ≤ p'.ver ∧ (p'.ver = p.ver → p'.b = p.b ∧ p'.o = p.o ∧ p'.sz = p.sz ∧ p'.cap = p.cap) ∧ (p.row = false → p'.b = p.b)
  free : ∀ b, b < w.heap.size → Free ρ b → Free ρ' b ∧ w'.heap[b]? = w.heap[b]?
  res : ρ'.res = ρ.res ∧ ∀ b, b < w.heap.size → ρ.res b → w'.heap[b]? = w.heap[b]?
  size : w.heap.size ≤ w'.heap.size
  os : w'.os = w.os
  tape : w'.tape = w.tape
  output : w'.output = w.output

theorem Ext.refl (ρ : Rho) (w : World) : Ext ρ w ρ w :=
  ⟨fun _ p h => ⟨p, h, rfl, Nat.le_refl _, fun _ => ⟨rfl, rfl, rfl, rfl⟩, fun _ => rfl⟩, fun _ _ h => ⟨h, rfl⟩, ⟨rfl, fun _ _ _ => rfl⟩, Nat.le_refl _, rfl, rfl, rfl⟩

theorem Ext.trans {ρ : Rho} {w : World} {ρ' : Rho} {w' : World} {ρ'' : Rho} {w'' : World} (h : Ext ρ w ρ' w') (k : Ext ρ' w' ρ'' w'') : Ext ρ w ρ'' w'' := by
  refine ⟨fun L p hp => ?_, fun b hb hf => ?_, ⟨k.res.1.trans h.res.1, fun b hb hr => (k.res.2 b (Nat.lt_of_lt_of_le hb h.size) (by rw [h.res.1]; exact hr)).trans (h.res.2 b hb hr)⟩, Nat.le_trans h.size k.size, k.os.trans h.os, k.tape.trans h.tape, k.output.trans h.output⟩
  · obtain ⟨p1, e1, r1, v1, s1, b1⟩ := h.loc L p hp
    obtain ⟨p2, e2, r2, v2, s2, b2⟩ := k.loc L p1 e1
    refine ⟨p2, e2, r2.trans r1, Nat.le_trans v1 v2, fun e => ?_, fun e => ?_⟩
    · have e3 : p1.ver = p.ver := by omega
      have e4 : p2.ver = p1.ver := by omega
      obtain ⟨a1, a2, a3, a4⟩ := s1 e3
      obtain ⟨c1, c2, c3, c4⟩ := s2 e4
      exact ⟨c1.trans a1, c2.trans a2, c3.trans a3, c4.trans a4⟩
    · exact (b2 (r1.trans e)).trans (b1 e)
  · obtain ⟨f1, e1⟩ := h.free b hb hf
    obtain ⟨f2, e2⟩ := k.free b (Nat.lt_of_lt_of_le hb h.size) f1
    exact ⟨f2, e2.trans e1⟩

theorem VR.mono {ρ : Rho} {w : World} {ρ' : Rho} {w' : World} (x : Ext ρ w ρ' w') {a : AV} {v : Value} (h : VR ρ w a v) : VR ρ' w' a v := by
  induction h with
  | bool b => exact .bool b
  | int k n => exact .int k n
  | str s => exact .str s
  | nilp => exact .nilp
  | ptr L o p h hr =>
    obtain ⟨p', e, r, _, _, b⟩ := x.loc L p h
    have := VR.ptr (ρ := ρ') (w := w') L o p' e (r.trans hr)
    rwa [b hr] at this
  | rptr cs o b o0 f hb hf h1 h2 h3 ih =>
    obtain ⟨f1, e1⟩ := x.free b hb hf
    refine .rptr cs o b o0 f (Nat.lt_of_lt_of_le hb x.size) f1 (fun j c hj => ?_) ih h3
    exact (cell_of_block e1).trans (h1 j c hj)
  | eptr L v i o p a h hr hv ha =>
    obtain ⟨p', e, r, vv, s, b⟩ := x.loc L p h
    refine .eptr L v i o p' a e (r.trans hr) (Nat.le_trans hv vv) fun hh => ?_
    have e1 : p'.ver = p.ver := by omega
    obtain ⟨c1, c2, c3, c4⟩ := s e1
    rw [ha (by omega), c1, c2, c3]
  | nils => exact .nils
  | sl full sz es a cap f hc hfull hp hok h1 h2 ih =>
    refine .sl full sz es a cap f hc hfull (fun hne => ?_) hok (fun i e j c hi hj => ?_) ih
    · obtain ⟨p1, p2, p3⟩ := hp hne
      exact ⟨p1, Nat.lt_of_lt_of_le p2 x.size, (x.free _ p2 p3).1⟩
    · have hne : es ≠ [] := by intro h0; rw [h0] at hi; simp at hi
      obtain ⟨p1, p2, p3⟩ := hp hne
      exact (cell_of_block (a := ⟨a.block, a.off + i * sz + j, none⟩) (x.free _ p2 p3).2).trans (h1 i e j c hi hj)
  | row L v off len p a cap h hr hv hl ha =>
    obtain ⟨p', e, r, vv, s, b⟩ := x.loc L p h
    refine .row L v off len p' a cap e (r.trans hr) (Nat.le_trans hv vv) hl fun hh => ?_
    have e1 : p'.ver = p.ver := by omega
    obtain ⟨c1, c2, c3, c4⟩ := s e1
    obtain ⟨q1, q2⟩ := ha (by omega)
    rw [c1, c2, c3, c4]
    exact ⟨q1, q2⟩
  | nilm => exact .nilm
  | map L p h hr =>
    obtain ⟨p', e, r, _, _, b⟩ := x.loc L p h
    have := VR.map (ρ := ρ') (w := w') L p' e (r.trans hr)
    rwa [b hr] at this
  | fn f xs ys vs us l1 l2 h1 h2 ih1 ih2 => exact .fn f xs ys vs us l1 l2 ih1 ih2
  | nilf => exact .nilf
  | iface t a v h ih => exact .iface t a v ih
  | nili => exact .nili
  | agg cs vs l h ih => exact .agg cs vs l ih
  | tup cs vs l h ih => exact .tup cs vs l ih

theorem VRs.mono {ρ : Rho} {w : World} {ρ' : Rho} {w' : World} (x : Ext ρ w ρ' w') {cs : List AV} {vs : List Value} (h : VRs ρ w cs vs) : VRs ρ' w' cs vs :=
  ⟨h.1, fun i c v hc hv => (h.2 i c v hc hv).mono x⟩

/-- What an object says. -/
def OR (ρ : Rho) (w : World) (p : Place) : AObj → Prop
  | .cells cs => p.live = true ∧ p.row = false ∧ ∃ vs E, w.heap[p.b]? = some (.cells vs E (0, 0)) ∧ cs.length = vs.size ∧ ∀ (i : Nat) (c : AV) (v : Value), cs[i]? = some c → vs[i]? = some v → VR ρ w c v
  | .row es sz v fro => p.row = true ∧ p.ver = v ∧ p.sz = sz ∧ 0 < sz ∧ p.live = !fro ∧ es.length ≤ p.cap ∧ (∀ e ∈ es, okE sz e = true) ∧ (fro = true → Free ρ p.b ∧ p.b < w.heap.size) ∧
      ∃ vs E fz, w.heap[p.b]? = some (.cells vs E fz) ∧ p.o + p.cap * sz ≤ vs.size ∧ (fz.2 ≤ fz.1 ∨ p.o + p.cap * sz ≤ fz.1) ∧
        ∀ (i : Nat) (e : AV) (j : Nat) (c : AV) (u : Value), es[i]? = some e → e.cells[j]? = some c → vs[p.o + i * sz + j]? = some u → VR ρ w c u
  | .map es => p.live = true ∧ p.row = false ∧ ∃ arr clock, w.heap[p.b]? = some (.map arr clock) ∧ es.length = arr.size ∧ MapKept.Stamped arr clock ∧
      ∀ (i : Nat) (e : AV × AV) (m : MapEntry), es[i]? = some e → arr[i]? = some m → e.1.inb 0 = true ∧ e.2.inb 0 = true ∧ VR ρ w e.1 m.key ∧ VR ρ w e.2 m.val
  | .iter m => p.live = true ∧ p.row = false ∧ m.inb 0 = true ∧ ∃ mb since last, w.heap[p.b]? = some (.mapIter mb since #[] last) ∧ VR ρ w m (.map mb)
  | .dead => p.live = false

/-- What the objects that are there say. -/
structure SRo (ρ : Rho) (σ : AS) (w : World) : Prop where
  objD : ∀ L ob, σ.get L = some ob → ob ≠ .dead → ∃ p, ρ L = some p ∧ OR ρ w p ob
structure SR (ρ : Rho) (σ : AS) (w : World) : Prop extends SRo ρ σ w where
  dom : ∀ L p, ρ L = some p → ∃ ob, σ.get L = some ob
  inj : ∀ L L' p p', ρ L = some p → ρ L' = some p' → p.live = true → p'.live = true → p.b = p'.b → L = L'
  lt : ∀ L p, ρ L = some p → p.live = true → p.b < w.heap.size
  hin : ∀ i cs, σ.get (.hp i) = some (.cells cs) → AVs.inb 0 cs = true
  nres : ∀ L p, ρ L = some p → p.live = true → ¬ ρ.res p.b
  resl : ∀ b, ρ.res b → b < w.heap.size

instance {ρ : Rho} {σ : AS} {w : World} : Coe (SR ρ σ w) (SRo ρ σ w) := ⟨SR.toSRo⟩
theorem SRo.obj {ρ : Rho} {σ : AS} {w : World} (s : SRo ρ σ w) (L : Loc) (ob : AObj) (h : σ.get L = some ob) (hd : ob ≠ .dead := by (intro h; cases h)) : ∃ p, ρ L = some p ∧ OR ρ w p ob := s.objD L ob h hd

theorem AVs.inb_iff {h : Nat} {l : List AV} : AVs.inb h l = true ↔ ∀ c ∈ l, c.inb h = true := by
  induction l with
  | nil => simp [AVs.inb]
  | cons a l ih => simp [AVs.inb, ih]

theorem getElem?_mem' {α} {l : List α} {i : Nat} {a : α} (h : l[i]? = some a) : a ∈ l := by
  rw [List.getElem?_eq_some_iff] at h
  obtain ⟨h, rfl⟩ := h
  exact List.getElem_mem h

/-- Only what is there is named. -/
theorem VR.inb {ρ : Rho} {w : World} {σ : AS} (hd : ∀ L p, ρ L = some p → ∃ ob, σ.get L = some ob) {a : AV} {v : Value} (h : VR ρ w a v) : a.inb σ.st.length = true := by
  have hL : ∀ L p, ρ L = some p → L.inb σ.st.length = true := fun L p h => by
    obtain ⟨ob, ho⟩ := hd L p h
    cases L with
    | hp i => rfl
    | st i => simp only [Loc.inb, decide_eq_true_eq]; simp only [AS.get] at ho; exact (List.getElem?_eq_some_iff.1 ho).1
  have hall : ∀ (cs : List AV) (vs : Array Value), cs.length = vs.size → (∀ (i : Nat) (c : AV) (v : Value), cs[i]? = some c → vs[i]? = some v → c.inb σ.st.length = true) → AVs.inb σ.st.length cs = true := by
    intro cs vs l ih
    rw [AVs.inb_iff]
    intro c hc
    obtain ⟨i, hi, rfl⟩ := List.getElem_of_mem hc
    exact ih i _ (vs[i]'(by omega)) (by simp) (by simp)
  induction h with
  | ptr L o p h hr => exact hL L p h
  | eptr L v i o p a h hr hv ha => exact hL L p h
  | row L v off len p a cap h hr hv hl ha => exact hL L p h
  | map L p h hr => exact hL L p h
  | fn f xs ys vs us l1 l2 h1 h2 ih1 ih2 => simp only [AV.inb, Bool.and_eq_true]; exact ⟨hall xs vs l1 ih1, hall ys us l2 ih2⟩
  | iface t a v h ih => simpa [AV.inb] using ih
  | agg cs vs l h ih => simp only [AV.inb]; exact hall cs vs l ih
  | tup cs vs l h ih => simp only [AV.inb]; exact hall cs vs l ih
  | _ => simp [AV.inb]

theorem Loc.inb_mono {L : Loc} {h k : Nat} (hk : h ≤ k) (x : L.inb h = true) : L.inb k = true := by
  cases L with
  | hp i => rfl
  | st i => simp only [Loc.inb, decide_eq_true_eq] at *; omega

mutual
theorem AV.inb_mono {h k : Nat} (hk : h ≤ k) : ∀ (a : AV), a.inb h = true → a.inb k = true
  | .ptr L _, x => Loc.inb_mono hk x
  | .eptr L _ _ _, x => Loc.inb_mono hk x
  | .row L _ _ _, x => Loc.inb_mono hk x
  | .map L, x => Loc.inb_mono hk x
  | .fn _ a b, x => by
    simp only [AV.inb, Bool.and_eq_true] at *
    exact ⟨AVs.inb_mono hk a x.1, AVs.inb_mono hk b x.2⟩
  | .iface _ v, x => by simp only [AV.inb] at *; exact AV.inb_mono hk v x
  | .agg cs, x => by simp only [AV.inb] at *; exact AVs.inb_mono hk cs x
  | .tup cs, x => by simp only [AV.inb] at *; exact AVs.inb_mono hk cs x
  | .bool _, _ | .int _ _, _ | .str _, _ | .nilp, _ | .rptr _ _, _ | .nils, _ | .sl _ _ _, _ | .nilm, _ | .nilf, _ | .nili, _ => by simp [AV.inb]
theorem AVs.inb_mono {h k : Nat} (hk : h ≤ k) : ∀ (l : List AV), AVs.inb h l = true → AVs.inb k l = true
  | [], _ => rfl
  | a :: l, x => by
    simp only [AVs.inb, Bool.and_eq_true] at *
    exact ⟨AV.inb_mono hk a x.1, AVs.inb_mono hk l x.2⟩
end

/-- ρ without the stack from h on. -/
def Rho.cut (ρ : Rho) (h : Nat) : Rho := ⟨fun L => if L.inb h = true then ρ L else none, ρ.res⟩
theorem Rho.cut_some {ρ : Rho} {h : Nat} {L : Loc} {p : Place} (x : ρ.cut h L = some p) : L.inb h = true ∧ ρ L = some p := by
  unfold Rho.cut at x
  simp only at x
  split at x
  · exact ⟨by assumption, x⟩
  · cases x

theorem Free.cut {ρ : Rho} {b h : Nat} (x : Free ρ b) : Free (ρ.cut h) b := ⟨fun L p hp hl => x.1 L p (Rho.cut_some hp).2 hl, x.2⟩

theorem cell_inb {h : Nat} {l : List AV} {j : Nat} {c : AV} (x : AVs.inb h l = true) (hj : l[j]? = some c) : c.inb h = true :=
  AVs.inb_iff.1 x c (getElem?_mem' hj)

theorem okE_len {sz : Nat} {e : AV} (h : okE sz e = true) : e.cells.length = sz := by
  unfold okE at h; simp only [Bool.and_eq_true, decide_eq_true_eq] at h; exact h.1
theorem okE_inb {sz : Nat} {e : AV} (h : okE sz e = true) : AVs.inb 0 e.cells = true := by
  unfold okE at h; simp only [Bool.and_eq_true, decide_eq_true_eq] at h; exact h.2.2
theorem okE_one {sz : Nat} {e : AV} (h : okE sz e = true) : ∀ c ∈ e.cells, c.one = true := by
  unfold okE at h; simp only [Bool.and_eq_true, decide_eq_true_eq, List.all_eq_true] at h; exact h.2.1

theorem VR.cut {ρ : Rho} {w : World} {h : Nat} {a : AV} {v : Value} (x : VR ρ w a v) : a.inb h = true → VR (ρ.cut h) w a v := by
  have hL : ∀ {L p}, ρ L = some p → L.inb h = true → ρ.cut h L = some p := fun hp hi => by simp [Rho.cut, hi, hp]
  induction x with
  | bool b => intro _; exact .bool b
  | int k n => intro _; exact .int k n
  | str s => intro _; exact .str s
  | nilp => intro _; exact .nilp
  | ptr L o p h hr => intro y; exact .ptr L o p (hL h y) hr
  | rptr cs o b o0 f hb hf h1 h2 h3 ih =>
    intro _
    exact .rptr cs o b o0 f hb hf.cut h1 (fun j c hj => ih j c hj (AV.inb_mono (Nat.zero_le _) _ (cell_inb h3 hj))) h3
  | eptr L v i o p a h hr hv ha => intro y; exact .eptr L v i o p a (hL h y) hr hv ha
  | nils => intro _; exact .nils
  | sl full sz es a cap f hc hfull hp hok h1 h2 ih =>
    intro _
    refine .sl full sz es a cap f hc hfull (fun hne => ?_) hok h1 (fun i e j c hi hj => ih i e j c hi hj ?_)
    · obtain ⟨p1, p2, p3⟩ := hp hne; exact ⟨p1, p2, p3.cut⟩
    · exact AV.inb_mono (Nat.zero_le _) _ (cell_inb (okE_inb (hok e (getElem?_mem' hi))) hj)
  | row L v off len p a cap h hr hv hl ha => intro y; exact .row L v off len p a cap (hL h y) hr hv hl ha
  | nilm => intro _; exact .nilm
  | map L p h hr => intro y; exact .map L p (hL h y) hr
  | fn f xs ys vs us l1 l2 h1 h2 ih1 ih2 =>
    intro y
    simp only [AV.inb, Bool.and_eq_true] at y
    exact .fn f xs ys vs us l1 l2 (fun i c v hc hv => ih1 i c v hc hv (cell_inb y.1 hc)) (fun i c v hc hv => ih2 i c v hc hv (cell_inb y.2 hc))
  | nilf => intro _; exact .nilf
  | iface t a v h ih => intro y; exact .iface t a v (ih (by simpa [AV.inb] using y))
  | nili => intro _; exact .nili
  | agg cs vs l h ih => intro y; simp only [AV.inb] at y; exact .agg cs vs l (fun i c v hc hv => ih i c v hc hv (cell_inb y hc))
  | tup cs vs l h ih => intro y; simp only [AV.inb] at y; exact .tup cs vs l (fun i c v hc hv => ih i c v hc hv (cell_inb y hc))

/-- What lies below h on the stack names nothing from h on. -/
def Inv (h : Nat) (σ : AS) : Prop := ∀ i cs, i < h → σ.st[i]? = some (.cells cs) → AVs.inb h cs = true

theorem SR.inv {ρ : Rho} {σ : AS} {w : World} (s : SR ρ σ w) : Inv σ.st.length σ := by
  intro i cs hi hc
  obtain ⟨p, hp, ho⟩ := s.obj (.st i) (.cells cs) hc
  obtain ⟨_, _, vs, E, _, hl, hv⟩ := ho
  rw [AVs.inb_iff]
  intro c hcm
  obtain ⟨j, hj, rfl⟩ := List.getElem_of_mem hcm
  exact (hv j _ (vs[j]'(by omega)) (by simp) (by simp)).inb s.dom

def AS.cut (σ : AS) (h : Nat) : AS := { σ with st := σ.st.take h }

theorem AS.get_cut {σ : AS} {h : Nat} {L : Loc} : (σ.cut h).get L = if L.inb h = true then σ.get L else none := by
  cases L with
  | hp i => simp [AS.cut, AS.get, Loc.inb]
  | st i =>
    simp only [AS.cut, AS.get, Loc.inb, decide_eq_true_eq, List.getElem?_take]

theorem SR.cut {ρ : Rho} {σ : AS} {w : World} {h : Nat} (s : SR ρ σ w) (hi : Inv h σ) : SR (ρ.cut h) (σ.cut h) w := by
  refine ⟨⟨fun L ob ho hnd => ?_⟩, fun L p hp => ?_, fun L L' p p' h1 h2 l1 l2 e => ?_, fun L p h1 l1 => ?_, fun i cs hc => ?_, fun L p h1 l1 => ?_, s.resl⟩
  · rw [AS.get_cut] at ho
    split at ho
    · rename_i hL
      obtain ⟨p, hp, hob⟩ := s.objD L ob ho hnd
      refine ⟨p, by simp [Rho.cut, hL, hp], ?_⟩
      cases ob with
      | cells cs =>
        obtain ⟨a, b, vs, E, hw, hl, hv⟩ := hob
        refine ⟨a, b, vs, E, hw, hl, fun i c v hc hv' => (hv i c v hc hv').cut ?_⟩
        cases L with
        | hp k => exact AV.inb_mono (Nat.zero_le _) _ (cell_inb (s.hin k cs ho) hc)
        | st k => exact cell_inb (hi k cs (by simpa [Loc.inb] using hL) ho) hc
      | row es sz v fro =>
        obtain ⟨a1, a2, a3, a4, a5, a6, a7, a8, vs, E, fz, hw, hsz, hfz, hv⟩ := hob
        exact ⟨a1, a2, a3, a4, a5, a6, a7, fun h => ⟨(a8 h).1.cut, (a8 h).2⟩, vs, E, fz, hw, hsz, hfz, fun i e j c u he hc hu => (hv i e j c u he hc hu).cut
          (AV.inb_mono (Nat.zero_le _) _ (cell_inb (okE_inb (a7 e (getElem?_mem' he))) hc))⟩
      | map es =>
        obtain ⟨a, b, arr, clock, hw, hl, hst, hv⟩ := hob
        refine ⟨a, b, arr, clock, hw, hl, hst, fun i e m he hm => ?_⟩
        obtain ⟨i1, i2, v1, v2⟩ := hv i e m he hm
        exact ⟨i1, i2, v1.cut (AV.inb_mono (Nat.zero_le _) _ i1), v2.cut (AV.inb_mono (Nat.zero_le _) _ i2)⟩
      | iter m =>
        obtain ⟨a, b, i1, mb, since, last, hw, hv⟩ := hob
        exact ⟨a, b, i1, mb, since, last, hw, hv.cut (AV.inb_mono (Nat.zero_le _) _ i1)⟩
      | dead => exact hob
    · cases ho
  · obtain ⟨hL, hp⟩ := Rho.cut_some hp
    obtain ⟨ob, hob⟩ := s.dom L p hp
    exact ⟨ob, by rw [AS.get_cut, if_pos hL]; exact hob⟩
  · exact s.inj L L' p p' (Rho.cut_some h1).2 (Rho.cut_some h2).2 l1 l2 e
  · exact s.lt L p (Rho.cut_some h1).2 l1
  · rw [AS.get_cut] at hc
    exact s.hin i cs (by simpa [Loc.inb] using hc)
  · exact s.nres L p (Rho.cut_some h1).2 l1

/-- From a callee's end back to its caller. -/
theorem Ext.cut {ρ : Rho} {w : World} {ρ' : Rho} {w' : World} (x : Ext ρ w ρ' w') {h : Nat} (hd : ∀ L p, ρ L = some p → L.inb h = true) : Ext ρ w (ρ'.cut h) w' := by
  refine ⟨fun L p hp => ?_, fun b hb hf => ⟨(x.free b hb hf).1.cut, (x.free b hb hf).2⟩, x.res, x.size, x.os, x.tape, x.output⟩
  obtain ⟨p', e, r⟩ := x.loc L p hp
  exact ⟨p', by simp [Rho.cut, hd L p hp, e], r⟩

theorem SR.doml {ρ : Rho} {σ : AS} {w : World} (s : SR ρ σ w) : ∀ L p, ρ L = some p → L.inb σ.st.length = true := fun L p h => by
  obtain ⟨ob, ho⟩ := s.dom L p h
  cases L with
  | hp i => rfl
  | st i => simp only [Loc.inb, decide_eq_true_eq]; simp only [AS.get] at ho; exact (List.getElem?_eq_some_iff.1 ho).1
end Go.Abs
