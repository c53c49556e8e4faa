/- Arguments that hold steps, opened. No condition. -/
import Derived.Test.YtfkjcldaclkkaaaArgs
import Derived.Test.YtfkjcldaclkkaaaSteps
import Derived.Deep.Slices
import Derived.Deep.Strs
import Derived.Lib.SmallJoins
namespace Go.Proofs.Ytfkjcldaclkkaaa
set_option linter.unusedVariables false
set_option maxRecDepth 100000
open Go.ChangeShapes Go.WideShapes Go.ChangeAt Go.RowKit Go.Deep

theorem Try.cellsBool : Try.prog.cellsOf 4 = 1 := by kernel_rfl
theorem Try.cellsStrs : Try.prog.cellsOf 28 = 1 := by kernel_rfl
theorem Try.cellsStep : Try.prog.cellsOf 104 = 3 := by kernel_rfl

def IsStep (W : World) (v : Value) : Prop := ∃ (nm : ByteArray) (A : Option Addr) (c : Nat) (xs : List ByteArray) (u : Bool), v = .agg #[.string nm, .slice A xs.length c, .bool u] ∧ nm.size ≤ 9223372036854775807 ∧ Strs W W.heap.size A c xs

section
variable {H : Type} {enc : TypeId × Value → H} {W : World} {base : Nat} {v : Value} {d : DataW H} {p : List MemPlace} {sp : Nat → Bool}

theorem step_cells {f : Nat} {cs : List Value} {x : DataW H × List MemPlace} (hf : DataW.trod enc Try.prog W 0 sp true f 104 cs = some x) :
    ∃ (nm : ByteArray) (A : Option Addr) (c : Nat) (xs : List ByteArray) (u : Bool), cs = [.string nm, .slice A xs.length c, .bool u] ∧ nm.size ≤ 9223372036854775807 ∧ Strs W W.heap.size A c xs := by
  obtain ⟨y0, y1, y2, n, _, hl, h0, h1, h2⟩ := trod_struct3 Try.underlying104 hf
  rw [Try.cellsStep] at hl
  match cs, hl with
  | [c0, c1, c2], _ =>
    have h0' : DataW.trod enc Try.prog W 0 sp true n 9 (([c0, c1, c2].drop 0).take (Try.prog.cellsOf 9)) = some y0 := h0
    have h1' : DataW.trod enc Try.prog W 0 sp true n 28 (([c0, c1, c2].drop 1).take (Try.prog.cellsOf 28)) = some y1 := h1
    have h2' : DataW.trod enc Try.prog W 0 sp true n 4 (([c0, c1, c2].drop 2).take (Try.prog.cellsOf 4)) = some y2 := h2
    rw [Try.cellsString] at h0'
    rw [Try.cellsStrs] at h1'
    rw [Try.cellsBool] at h2'
    obtain ⟨s, e0, _, hs⟩ := DataW.trod_string Try.underlying9 h0'
    obtain ⟨A, c, xs, e1, hx⟩ := strs_cells h1'
    obtain ⟨u, e2, _⟩ := DataW.trod_bool Try.underlying4 h2'
    simp at e0 e1 e2
    subst e0 e1 e2
    exact ⟨s, A, c, xs, u, rfl, by simpa [maxLen] using hs, hx⟩

theorem arg_step (hv : Value.okWide Try.prog W .any base 104 v) (h : DataW.Trod enc Try.prog W 0 sp true 104 v d p) : IsStep W v := by
  obtain ⟨cs, rfl, hsz⟩ := okWide_struct Try.underlying104 hv
  obtain ⟨f, hf⟩ := h
  obtain ⟨nm, A, c, xs, u, e, h1, h2⟩ := step_cells hf
  refine ⟨nm, A, c, xs, u, ?_, h1, h2⟩
  have : cs.toList = [.string nm, .slice A xs.length c, .bool u] := by simpa [Value.cells] using e
  obtain ⟨l⟩ := cs
  have : l = [.string nm, .slice A xs.length c, .bool u] := by simpa using this
  rw [this]
end
end Go.Proofs.Ytfkjcldaclkkaaa
