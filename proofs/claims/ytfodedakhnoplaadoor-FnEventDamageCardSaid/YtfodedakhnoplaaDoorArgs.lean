/- The arguments of the laws, opened: what a reading says of the cells. No condition. -/
import Derived.Test.YtfodedakhnoplaaDoorLaw
import Derived.Test.YtfodedakhnoplaaDoorWords
import Derived.SliceStrings
namespace Go.Proofs.YtfodedakhnoplaaDoor
set_option linter.unusedVariables false
set_option maxRecDepth 100000
open Go.ChangeShapes Go.WideShapes Go.ChangeAt Go.RowKit
open Go.ChangeMaps (open_string)

theorem Tryd.cellsString : Tryd.prog.cellsOf 9 = 1 := by kernel_rfl

theorem Tryd.cellsByte : Tryd.prog.cellsOf 5 = 1 := by kernel_rfl

def IsStr (v : Value) : Prop := ∃ s : ByteArray, v = .string s ∧ s.size ≤ 9223372036854775807
def IsCode (W : World) (v : Value) : Prop := ∃ (A : Option Addr) (c : Nat) (zs : List Int), v = .slice A zs.length c ∧ Byts W W.heap.size A c zs
def IsStrs (W : World) (v : Value) : Prop := ∃ (A : Option Addr) (c : Nat) (xs : List ByteArray), v = .slice A xs.length c ∧ Strs W W.heap.size A c xs

section
variable {H : Type} {enc : TypeId × Value → H} {W : World} {base : Nat} {v : Value} {d : DataW H} {p : List MemPlace} {sp : Nat → Bool}
theorem arg_string (hv : Value.okWide Tryd.prog W .any base 9 v) (h : DataW.Trod enc Tryd.prog W 0 sp true 9 v d p) : IsStr v := by
  obtain ⟨s, rfl, rfl, rfl, hs⟩ := open_string Tryd.underlying9 hv h
  exact ⟨s, rfl, by simpa [maxLen] using hs⟩

theorem arg_code (hv : Value.okWide Tryd.prog W .any base 29 v) (h : DataW.Trod enc Tryd.prog W 0 sp true 29 v d p) : IsCode W v := by
  obtain ⟨a0, len, cap, rfl⟩ := okWide_slice Tryd.underlying29 hv
  obtain ⟨f, hf⟩ := h
  rcases open_ints Tryd.underlying29 Tryd.underlying5 Tryd.cellsByte hf with ⟨hcs, _⟩ | ⟨a, len', cap', zs, hcs, _, hl, hm, hz, _, hcell, hws⟩
  · refine ⟨none, 0, [], ?_, Byts.nil_⟩
    simpa [Value.cells] using hcs
  · have hlz : len' ≤ zs.length := by rw [hz]; split <;> omega
    have hlen : (zs.take len').length = len' := by simp; omega
    have hcell' : ∀ i, i < zs.length → W.cell? (a.add i) = some (.int .u8 (zs.getD i 0)) := hcell
    refine ⟨some a, cap', zs.take len', ?_, by omega, by simpa [maxLen] using hm, ?_, ?_⟩
    · rw [hlen]
      simpa [Value.cells] using hcs
    · intro j hj
      rw [List.getElem_take]
      have := hws _ (List.getElem_mem (l := zs) (n := j) (by simp at hj; omega))
      simpa [Lit.wf, IntKind.min, IntKind.max, IntKind.signed, IntKind.bits] using this
    · intro h0
      refine ⟨a, rfl, ?_, ?_⟩
      · have := World.block_lt_of_cell? W _ (hcell' 0 (by omega))
        rwa [block_of_add] at this
      · intro j hj
        rw [hcell' j (by omega), List.getElem_take]
        simp [List.getD_eq_getElem?_getD, List.getElem?_eq_getElem (show j < zs.length by omega)]

theorem strs_cells {f : Nat} {cs : List Value} {x : DataW H × List MemPlace} (hf : DataW.trod enc Tryd.prog W 0 sp true f 47 cs = some x) :
    ∃ (A : Option Addr) (c : Nat) (xs : List ByteArray), cs = [.slice A xs.length c] ∧ Strs W W.heap.size A c xs := by
  rcases open_strings Tryd.underlying47 Tryd.underlying9 Tryd.cellsString hf with ⟨rfl, _⟩ | ⟨a, len, cap, ss, rfl, _, hl, hm, hz, _, hcell, hws⟩
  · exact ⟨none, 0, [], rfl, Strs.nil_⟩
  · have hlz : len ≤ ss.length := by rw [hz]; split <;> omega
    have hlen : (ss.take len).length = len := by simp; omega
    refine ⟨some a, cap, ss.take len, by rw [hlen], by omega, by simpa [maxLen] using hm, ?_, ?_⟩
    · intro j hj
      rw [List.getElem_take]
      simpa [maxLen] using hws _ (List.getElem_mem _)
    · intro h0
      have hc : ∀ j, j < ss.length → W.cell? (a.add j) = some (.string (ss.getD j ByteArray.empty)) := hcell
      refine ⟨a, rfl, ?_, ?_⟩
      · have := World.block_lt_of_cell? W _ (hc 0 (by omega))
        rwa [block_of_add] at this
      · intro j hj
        rw [hc j (by omega), List.getElem_take]
        simp [List.getD_eq_getElem?_getD, List.getElem?_eq_getElem (show j < ss.length by omega)]

theorem arg_strs (hv : Value.okWide Tryd.prog W .any base 47 v) (h : DataW.Trod enc Tryd.prog W 0 sp true 47 v d p) : IsStrs W v := by
  obtain ⟨a0, len, cap, rfl⟩ := okWide_slice Tryd.underlying47 hv
  obtain ⟨f, hf⟩ := h
  obtain ⟨A, c, xs, hcs, hs⟩ := strs_cells hf
  refine ⟨A, c, xs, ?_, hs⟩
  simpa [Value.cells] using hcs
end
end Go.Proofs.YtfodedakhnoplaaDoor
