/- Laws by which 'simp' runs a text. -/
import Derived.Test.YtjhgheheopcolaaGreatAbs36
set_option linter.unusedVariables false
set_option linter.unusedSimpArgs false
namespace Go.Abs
section
variable {hp s own : List AObj} {i n : Nat} {ob : AObj}
@[simp] theorem get_own0 : AS.get ⟨hp, s ++ own⟩ (.st s.length) = own[0]? := by simp [AS.get, List.getElem?_append_right]
@[simp] theorem get_own : AS.get ⟨hp, s ++ own⟩ (.st (s.length + i)) = own[i]? := by simp [AS.get, List.getElem?_append_right]
@[simp] theorem get_hp : AS.get ⟨hp, s⟩ (.hp i) = hp[i]? := rfl
@[simp] theorem set_own0 : AS.set ⟨hp, s ++ own⟩ (.st s.length) ob = ⟨hp, s ++ own.set 0 ob⟩ := by simp [AS.set]
@[simp] theorem set_own : AS.set ⟨hp, s ++ own⟩ (.st (s.length + i)) ob = ⟨hp, s ++ own.set i ob⟩ := by simp [AS.set]
@[simp] theorem set_hp : AS.set ⟨hp, s⟩ (.hp i) ob = ⟨hp.set i ob, s⟩ := rfl
@[simp] theorem push_st : AS.push ⟨hp, s⟩ false ob = ⟨hp, s ++ [ob]⟩ := by simp [AS.push]
@[simp] theorem push_hp : AS.push ⟨hp, s⟩ true ob = ⟨hp ++ [ob], s⟩ := by simp [AS.push]
@[simp] theorem next_st : AS.next ⟨hp, s⟩ false = .st s.length := by simp [AS.next]
@[simp] theorem next_hp : AS.next ⟨hp, s⟩ true = .hp hp.length := by simp [AS.next]
@[simp] theorem cut_own : AS.cut ⟨hp, s ++ own⟩ s.length = ⟨hp, s⟩ := by simp [AS.cut]
@[simp] theorem wok_hp {ro : Option Nat} : wok ro (.hp i) = ro.isNone := rfl
@[simp] theorem wok_none {L : Loc} : wok none L = true := by cases L <;> rfl
theorem wok_le {ro : Option Nat} (h : ∀ k, ro = some k → k ≤ n) : wok ro (.st n) = true := by
  cases ro with
  | none => rfl
  | some k => simpa [wok] using h k rfl
theorem wok_le' {ro : Option Nat} (h : ∀ k, ro = some k → k ≤ n) : wok ro (.st (n + i)) = true := by
  cases ro with
  | none => rfl
  | some k => have := h k rfl; simp only [wok, decide_eq_true_eq]; omega

@[simp] theorem cells_agg {cs} : (AV.agg cs).cells = cs := rfl
@[simp] theorem cells_int {k n} : (AV.int k n).cells = [AV.int k n] := rfl
@[simp] theorem cells_str {x} : (AV.str x).cells = [AV.str x] := rfl
@[simp] theorem cells_bool {x} : (AV.bool x).cells = [AV.bool x] := rfl
@[simp] theorem cells_nilp : (AV.nilp).cells = [AV.nilp] := rfl
@[simp] theorem cells_nils : (AV.nils).cells = [AV.nils] := rfl
@[simp] theorem cells_nilm : (AV.nilm).cells = [AV.nilm] := rfl
@[simp] theorem cells_nilf : (AV.nilf).cells = [AV.nilf] := rfl
@[simp] theorem cells_nili : (AV.nili).cells = [AV.nili] := rfl
@[simp] theorem cells_ptr {L o} : (AV.ptr L o).cells = [AV.ptr L o] := rfl
@[simp] theorem cells_rptr {L o} : (AV.rptr L o).cells = [AV.rptr L o] := rfl
@[simp] theorem cells_eptr {L v i o} : (AV.eptr L v i o).cells = [AV.eptr L v i o] := rfl
@[simp] theorem cells_row {L v i o} : (AV.row L v i o).cells = [AV.row L v i o] := rfl
@[simp] theorem cells_sl {L v i} : (AV.sl L v i).cells = [AV.sl L v i] := rfl
@[simp] theorem cells_map {L} : (AV.map L).cells = [AV.map L] := rfl
@[simp] theorem cells_fn {f x y} : (AV.fn f x y).cells = [AV.fn f x y] := rfl
@[simp] theorem cells_iface {t x} : (AV.iface t x).cells = [AV.iface t x] := rfl
@[simp] theorem one_agg {cs} : (AV.agg cs).one = false := rfl
@[simp] theorem one_int {k n} : (AV.int k n).one = true := rfl
@[simp] theorem one_str {x} : (AV.str x).one = true := rfl
@[simp] theorem one_bool {x} : (AV.bool x).one = true := rfl
@[simp] theorem one_nilp : (AV.nilp).one = true := rfl
@[simp] theorem one_nils : (AV.nils).one = true := rfl
@[simp] theorem one_nilm : (AV.nilm).one = true := rfl
@[simp] theorem one_nilf : (AV.nilf).one = true := rfl
@[simp] theorem one_nili : (AV.nili).one = true := rfl
@[simp] theorem one_ptr {L o} : (AV.ptr L o).one = true := rfl
@[simp] theorem one_rptr {L o} : (AV.rptr L o).one = true := rfl
@[simp] theorem one_eptr {L v i o} : (AV.eptr L v i o).one = true := rfl
@[simp] theorem one_row {L v i o} : (AV.row L v i o).one = true := rfl
@[simp] theorem one_sl {L v i} : (AV.sl L v i).one = true := rfl
@[simp] theorem one_map {L} : (AV.map L).one = true := rfl
@[simp] theorem one_fn {f x y} : (AV.fn f x y).one = true := rfl
@[simp] theorem one_iface {t x} : (AV.iface t x).one = true := rfl
end

/-- A single cell that names nothing of the stack, and no row. -/
structure Plain (v : AV) : Prop where
  one : v.one = true
  inb : ∀ h, v.inb h = true
  row : isRow v = false
theorem Plain.cells {v : AV} (h : Plain v) : v.cells = [v] := one_cells h.one
theorem Plain.back {v : AV} (hv : Plain v) (h : Nat) (σ : AS) : v.back h σ = some v := by
  have h1 := hv.one
  have h2 := hv.row
  cases v <;> first | rfl | (cases h1; done) | (cases h2; done)
end Go.Abs
