/- Words for memory: a run's box, known whole. No condition. -/
import Derived.Test.YtdjgpoenlmhonaaWords
namespace Go.Proofs.Ytdjgpoenlmhonaa
set_option linter.unusedVariables false
set_option maxRecDepth 100000
open Go.RowKit

/-- A run's box, known whole. -/
def RBox (w : World) (b : Nat) (x y : Value) : Prop := w.heap[b]? = some (.cells #[x, y] 25 (0, 0))
section
variable {w w' : World} {b : Nat} {x y u v : Value}
theorem RBox.new (w : World) (x y : Value) : RBox (w.alloc (.cells #[x, y] 25)) w.heap.size x y := heap_alloc_new w _
theorem RBox.new_at (w : World) (x y : Value) {n : Nat} (h : w.heap.size = n) : RBox (w.alloc (.cells #[x, y] 25)) n x y := h ▸ heap_alloc_new w _
theorem RBox.lt (h : RBox w b x y) : b < w.heap.size := (Array.getElem?_eq_some_iff.1 h).1
theorem RBox.then_ (h : RBox w b x y) (hb : Below w.heap.size w w') : RBox w' b x y := (hb.block b h.lt).trans h
theorem RBox.cells (h : RBox w b x y) : w.cell? ⟨b, 0, none⟩ = some x ∧ w.cell? ⟨b, 1, none⟩ = some y :=
  ⟨by rw [cell_of_row w b 0 _ _ (0, 0) h]; rfl, by rw [cell_of_row w b 1 _ _ (0, 0) h]; rfl⟩
theorem RBox.free (h : RBox w b x y) (i : Nat) : w.frozen? ⟨b, i, none⟩ = false := by unfold RBox at h; simp [World.frozen?, h]
theorem RBox.set0 (h : RBox w b x y) (u : Value) : RBox (w.setCell ⟨b, 0, none⟩ u) b u y := by unfold RBox at h ⊢; simp [World.setCell, Array.getElem?_modify, h]
theorem RBox.set1 (h : RBox w b x y) (u : Value) : RBox (w.setCell ⟨b, 1, none⟩ u) b x u := by unfold RBox at h ⊢; simp [World.setCell, Array.getElem?_modify, h]
theorem RBox.set (h : RBox w b x y) (u v : Value) : Cell2 ((w.setCell ⟨b, 0, none⟩ u).setCell ⟨b, 1, none⟩ v) b u v := ⟨((h.set0 u).set1 v).cells.1, ((h.set0 u).set1 v).cells.2⟩
end
theorem blk_ne {a b N i j : Nat} (h : a < N) (k : N ≤ b) : (⟨b, i, none⟩ : Addr) ≠ ⟨a, j, none⟩ := fun e => by injection e with e; omega
theorem RBox.keep_ {w w' : World} {b g : Nat} {x y : Value} (h : RBox w b x y) (hg : w.grownBy w' (some g)) (hne : b ≠ g) : RBox w' b x y := (hg.block b h.lt (fun e => hne (by injection e))).trans h
theorem RBox.cell2 {w : World} {b : Nat} {x y : Value} (h : RBox w b x y) : Cell2 w b x y := ⟨h.cells.1, h.cells.2⟩
theorem RBox.alloc {w : World} {b : Nat} {x y : Value} (h : RBox w b x y) (o : Obj) : RBox (w.alloc o) b x y := (Below.heap_alloc _ _ _ h.lt).trans h
theorem RBox.far {w : World} {b : Nat} {x y u : Value} {p : Addr} (h : RBox w b x y) (hne : b ≠ p.block) : RBox (w.setCell p u) b x y := (Below.heap_setCell _ _ _ _ hne).trans h
theorem farb_ne {a b i : Nat} {p : Addr} (h : p.block < a) (k : a ≤ b) : (⟨b, i, none⟩ : Addr) ≠ p := fun e => by
  have : b = p.block := congrArg Addr.block e
  omega
theorem below_grown {w w' : World} {g : Option Nat} (hb : Below w.heap.size w w') : w.grownBy w' g := ⟨hb.os, hb.tape, hb.output, hb.size, fun k hk _ => hb.block k hk⟩
theorem RBox.drew {w : World} {b : Nat} {x y : Value} (h : RBox w b x y) : RBox w.drew b x y := h
end Go.Proofs.Ytdjgpoenlmhonaa
