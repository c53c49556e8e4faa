/- Arguments that hold runs, opened. No condition. -/
import Derived.Test.YtaelacpkagcffaaFlowArgs
namespace Go.Proofs.Ytaelacpkagcffaa
set_option linter.unusedVariables false
set_option maxRecDepth 100000
open Go.ChangeShapes Go.WideShapes Go.ChangeAt Go.RowKit Go.Deep

theorem Try.cellsRun : Try.prog.cellsOf 27 = 2 := by kernel_rfl

def IsRun (W : World) (v : Value) : Prop := ∃ (st : Int) (A : Option Addr) (c : Nat) (xs : List ByteArray), v = .agg #[.int .i64 st, .slice A xs.length c] ∧ Strs W W.heap.size A c xs

section
variable {H : Type} {enc : TypeId × Value → H} {W : World} {base : Nat} {v : Value} {d : DataW H} {p : List MemPlace} {sp : Nat → Bool}

theorem arg_run (hv : Value.okWide Try.prog W .any base 27 v) (h : DataW.Trod enc Try.prog W 0 sp true 27 v d p) : IsRun W v := by
  obtain ⟨cs, rfl, hsz⟩ := okWide_struct Try.underlying27 hv
  obtain ⟨f, hf⟩ := h
  obtain ⟨y0, y1, n, _, hl, h0, h1⟩ := trod_struct2 Try.underlying27 hf
  rw [Try.cellsRun] at hl
  obtain ⟨l⟩ := cs
  have e : (Value.agg ⟨l⟩).cells.toList = l := by simp [Value.cells]
  rw [e] at hl h0 h1
  match l, hl with
  | [c0, c1], _ =>
    have h0' : DataW.trod enc Try.prog W 0 sp true n 3 (([c0, c1].drop 0).take (Try.prog.cellsOf 3)) = some y0 := h0
    have h1' : DataW.trod enc Try.prog W 0 sp true n 25 (([c0, c1].drop 1).take (Try.prog.cellsOf 25)) = some y1 := h1
    rw [Try.cellsInt] at h0'
    rw [Try.cellsStrs] at h1'
    obtain ⟨k, e0, _, _⟩ := DataW.trod_int Try.underlying3 h0'
    obtain ⟨A, c, ss, e1, hs⟩ := strs_cells h1'
    simp at e0 e1
    subst e0 e1
    exact ⟨k, A, c, ss, rfl, hs⟩
end
end Go.Proofs.Ytaelacpkagcffaa
