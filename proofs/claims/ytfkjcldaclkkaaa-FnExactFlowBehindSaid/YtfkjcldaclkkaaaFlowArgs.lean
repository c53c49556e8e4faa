/- Arguments that hold flows, opened. No condition. -/
import Derived.Test.YtfkjcldaclkkaaaStepArgs
import Derived.Test.YtfkjcldaclkkaaaFlowWords
namespace Go.Proofs.Ytfkjcldaclkkaaa
set_option linter.unusedVariables false
set_option maxRecDepth 100000
open Go.ChangeShapes Go.WideShapes Go.ChangeAt Go.RowKit Go.Deep

theorem Try.cellsSteps : Try.prog.cellsOf 41 = 1 := by kernel_rfl
theorem Try.cellsFlow : Try.prog.cellsOf 43 = 2 := by kernel_rfl
theorem Try.cellsInt : Try.prog.cellsOf 3 = 1 := by kernel_rfl

def IsFlow (W : World) (v : Value) : Prop := ∃ (ver : Int) (A : Option Addr) (c : Nat) (ss : List St), v = .agg #[.int .i64 ver, .slice A ss.length c] ∧ Sts W W.heap.size A c ss

section
variable {H : Type} {enc : TypeId × Value → H} {W : World} {base : Nat} {v : Value} {d : DataW H} {p : List MemPlace} {sp : Nat → Bool}

theorem steps_cells {f : Nat} {cs : List Value} {x : DataW H × List MemPlace} (hf : DataW.trod enc Try.prog W 0 sp true f 41 cs = some x) :
    ∃ (A : Option Addr) (c : Nat) (ss : List St), cs = [.slice A ss.length c] ∧ Sts W W.heap.size A c ss := by
  rcases open_slice Try.underlying41 hf with ⟨hcs, _⟩ | ⟨a, len, cap, m, n, D, Pl, hcs, _, hl, hm, hmm, _, hi⟩
  · exact ⟨none, 0, [], hcs, Sts.nil_⟩
  · have hlm : len ≤ m := by rw [hmm]; split <;> omega
    rw [Try.cellsStep] at hi
    have hat : ∀ i, i < len → ∃ s : St, StAt W W.heap.size (a.add (i * 3)) s ∧ s.name.size ≤ 9223372036854775807 := by
      intro i hil
      obtain ⟨cs', hc, ht⟩ := hi i (by omega)
      obtain ⟨nm, A, c, xs, u, rfl, hs, hx⟩ := step_cells ht
      obtain ⟨_, _, hcell⟩ := World.cells?_some hc
      refine ⟨⟨nm, xs, u⟩, ⟨A, c, ?_, ?_, ?_, hx⟩, hs⟩
      · have := hcell 0 (by omega)
        have e0 : (a.add (i * 3)).add 0 = a.add (i * 3) := by unfold Addr.add; simp
        rw [e0] at this
        simpa using this
      · have := hcell 1 (by omega)
        exact this
      · have := hcell 2 (by omega)
        exact this
    obtain ⟨F, hF⟩ : ∃ F : Nat → St, ∀ i, i < len → StAt W W.heap.size (a.add (i * 3)) (F i) ∧ (F i).name.size ≤ 9223372036854775807 := by
      refine ⟨fun i => if hil : i < len then Classical.choose (hat i hil) else ⟨⟨#[]⟩, [], false⟩, fun i hil => ?_⟩
      simp only [hil, dite_true]
      exact Classical.choose_spec (hat i hil)
    have hlen : ((List.range len).map F).length = len := by simp
    refine ⟨some a, cap, (List.range len).map F, ?_, by omega, by simpa [maxLen] using hm, ?_, ?_⟩
    · rw [hlen]; exact hcs
    · intro j hj
      simp only [List.getElem_map, List.getElem_range]
      exact (hF j (by omega)).2
    · intro h0
      refine ⟨a, rfl, ?_, fun j hj => ?_⟩
      · obtain ⟨⟨_, _, h1, _⟩, _⟩ := hF 0 (by omega)
        have := World.block_lt_of_cell? W _ h1
        rwa [block_of_add] at this
      · simp only [List.getElem_map, List.getElem_range]
        exact (hF j (by omega)).1

theorem arg_flow (hv : Value.okWide Try.prog W .any base 43 v) (h : DataW.Trod enc Try.prog W 0 sp true 43 v d p) : IsFlow W v := by
  obtain ⟨cs, rfl, hsz⟩ := okWide_struct Try.underlying43 hv
  obtain ⟨f, hf⟩ := h
  obtain ⟨y0, y1, n, _, hl, h0, h1⟩ := trod_struct2 Try.underlying43 hf
  rw [Try.cellsFlow] at hl
  obtain ⟨l⟩ := cs
  have e : (Value.agg ⟨l⟩).cells.toList = l := by simp [Value.cells]
  rw [e] at hl h0 h1
  match l, hl with
  | [c0, c1], _ =>
    have h0' : DataW.trod enc Try.prog W 0 sp true n 3 (([c0, c1].drop 0).take (Try.prog.cellsOf 3)) = some y0 := h0
    have h1' : DataW.trod enc Try.prog W 0 sp true n 41 (([c0, c1].drop 1).take (Try.prog.cellsOf 41)) = some y1 := h1
    rw [Try.cellsInt] at h0'
    rw [Try.cellsSteps] at h1'
    obtain ⟨k, e0, _, _⟩ := DataW.trod_int Try.underlying3 h0'
    obtain ⟨A, c, ss, e1, hs⟩ := steps_cells h1'
    simp at e0 e1
    subst e0 e1
    exact ⟨k, A, c, ss, rfl, hs⟩
end
end Go.Proofs.Ytfkjcldaclkkaaa
