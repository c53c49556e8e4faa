/- A step's box, known whole; what is known behind a call whose step has been stored in a box, made before or behind it. No condition. -/
import Derived.Test.YtfkjcldaclkkaaaCutRun
namespace Go.Proofs.Ytfkjcldaclkkaaa
set_option linter.unusedVariables false
set_option maxRecDepth 100000
open Go.RowKit

/-- A step's box, known whole. -/
def SBox (w : World) (b : Nat) (x y z : Value) : Prop := w.heap[b]? = some (.cells #[x, y, z] 30 (0, 0))
section
variable {w w' : World} {b : Nat} {x y z u v : Value}
theorem SBox.new (w : World) (x y z : Value) : SBox (w.alloc (.cells #[x, y, z] 30)) w.heap.size x y z := heap_alloc_new w _
theorem SBox.new_at (w : World) (x y z : Value) {n : Nat} (h : w.heap.size = n) : SBox (w.alloc (.cells #[x, y, z] 30)) n x y z := h ▸ heap_alloc_new w _
theorem SBox.lt (h : SBox w b x y z) : b < w.heap.size := (Array.getElem?_eq_some_iff.1 h).1
theorem SBox.then_ (h : SBox w b x y z) (hb : Below w.heap.size w w') : SBox w' b x y z := (hb.block b h.lt).trans h
theorem SBox.cells (h : SBox w b x y z) : w.cell? ⟨b, 0, none⟩ = some x ∧ w.cell? ⟨b, 1, none⟩ = some y ∧ w.cell? ⟨b, 2, none⟩ = some z :=
  ⟨by rw [cell_of_row w b 0 _ _ (0, 0) h]; rfl, by rw [cell_of_row w b 1 _ _ (0, 0) h]; rfl, by rw [cell_of_row w b 2 _ _ (0, 0) h]; rfl⟩
theorem SBox.free (h : SBox w b x y z) (i : Nat) : w.frozen? ⟨b, i, none⟩ = false := by unfold SBox at h; simp [World.frozen?, h]
theorem SBox.set0 (h : SBox w b x y z) (u : Value) : SBox (w.setCell ⟨b, 0, none⟩ u) b u y z := by unfold SBox at h ⊢; simp [World.setCell, Array.getElem?_modify, h]
theorem SBox.set1 (h : SBox w b x y z) (u : Value) : SBox (w.setCell ⟨b, 1, none⟩ u) b x u z := by unfold SBox at h ⊢; simp [World.setCell, Array.getElem?_modify, h]
theorem SBox.set2 (h : SBox w b x y z) (u : Value) : SBox (w.setCell ⟨b, 2, none⟩ u) b x y u := by unfold SBox at h ⊢; simp [World.setCell, Array.getElem?_modify, h]
theorem SBox.drew (h : SBox w b x y z) : SBox w.drew b x y z := h
end
/-- What is known behind a call whose step has been stored in a box: the last field. -/
def CutStep (W0 : World) (z : Value) (vb : Value) (wx : World) : Prop :=
  ∃ b : Nat, vb = .pointer (some ⟨b, 0, none⟩) ∧ wx.cell? ⟨b, 2, none⟩ = some z ∧ b < wx.heap.size ∧ Below W0.heap.size W0 wx
theorem cut_step_last {W0 wK : World} {x y z : Value} (hb : Below W0.heap.size W0 wK) : CutStep W0 z (.pointer (some ⟨wK.heap.size, 0, none⟩)) (wK.alloc (.cells #[x, y, z] 30)) :=
  ⟨wK.heap.size, rfl, (SBox.new wK x y z).cells.2.2, by simp, hb.alloc hb.size _⟩
theorem cut_step_early {W0 wK : World} {b : Nat} {x y z x0 y0 z0 : Value} (hb : Below W0.heap.size W0 wK) (bx : SBox wK b x0 y0 z0) (hW : W0.heap.size ≤ b) :
    CutStep W0 z (.pointer (some ⟨b, 0, none⟩)) (((wK.setCell ⟨b, 0, none⟩ x).setCell ⟨b, 1, none⟩ y).setCell ⟨b, 2, none⟩ z) :=
  ⟨b, rfl, (((bx.set0 x).set1 y).set2 z).cells.2.2, by simpa using bx.lt, ((hb.setCell hW _).setCell hW _).setCell hW _⟩
end Go.Proofs.Ytfkjcldaclkkaaa
