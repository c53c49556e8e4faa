/- Contracts of the program's functions on runs: cloneNames, canDo, RunDo, RunFail, RunUndo, RunNext. Condition: at most 2000000 steps. -/
import Derived.Test.YtdjgpoenlmhonaaRunValid
import Derived.Test.YtdjgpoenlmhonaaFlowFns
import Derived.Test.YtdjgpoenlmhonaaAppend2
namespace Go.Proofs.Ytdjgpoenlmhonaa
set_option linter.unusedVariables false
set_option maxRecDepth 100000
open Go.RowKit

/-- A run, a name and a word are handed back. -/
def RetUndo (st : Int) (done : List ByteArray) (nm : ByteArray) (ok : Bool) (w : World) (e : Ending) (w' : World) : Prop :=
  ∃ A c, e = .returned (.tuple #[.agg #[.int .i64 st, .slice A done.length c], .string nm, .bool ok]) ∧ OwnStrs w' w.heap.size A c done ∧ Below w.heap.size w w'

theorem cell_stR {w : World} {a b : Addr} {u v : Value} (hne : a ≠ b) (h : w.cell? b = some u) : (w.setCell a v).cell? b = some u := (World.cell?_setCell_other w a b v hne).trans h

/-- Three boxes of two cells, one behind the other. -/
theorem three_boxes (w : World) (x y p q r s : Value) (t1 t2 t3 : TypeId) :
    Cell2 (((w.alloc (.cells #[x, y] t1)).alloc (.cells #[p, q] t2)).alloc (.cells #[r, s] t3)) w.heap.size x y ∧
    Cell2 (((w.alloc (.cells #[x, y] t1)).alloc (.cells #[p, q] t2)).alloc (.cells #[r, s] t3)) (w.heap.size + 1) p q ∧
    Cell2 (((w.alloc (.cells #[x, y] t1)).alloc (.cells #[p, q] t2)).alloc (.cells #[r, s] t3)) (w.heap.size + 2) r s ∧
    ∀ i, (((w.alloc (.cells #[x, y] t1)).alloc (.cells #[p, q] t2)).alloc (.cells #[r, s] t3)).frozen? ⟨w.heap.size + 2, i, none⟩ = false := by
  have e2 : (w.alloc (.cells #[x, y] t1)).heap.size = w.heap.size + 1 := by simp
  have e3 : ((w.alloc (.cells #[x, y] t1)).alloc (.cells #[p, q] t2)).heap.size = w.heap.size + 2 := by simp
  have c2 := (Cell2.new (w.alloc (.cells #[x, y] t1)) p q t2).alloc (.cells #[r, s] t3)
  have c3 := Cell2.new ((w.alloc (.cells #[x, y] t1)).alloc (.cells #[p, q] t2)) r s t3
  have c4 := heap_alloc_new ((w.alloc (.cells #[x, y] t1)).alloc (.cells #[p, q] t2)) (.cells #[r, s] t3)
  rw [e2] at c2
  rw [e3] at c3 c4
  refine ⟨((Cell2.new w x y t1).alloc _).alloc _, c2, c3, fun i => ?_⟩
  unfold World.frozen?
  simp only [c4]
  rfl

end Go.Proofs.Ytdjgpoenlmhonaa
