/- Contracts of the reference's functions on runs: l3Back, RunDo, RunFail, RunUndo, RunNext. Condition: at most 2000000 steps. -/
import Derived.Test.YtdjgpoenlmhonaaSpecCan
import Derived.Test.YtdjgpoenlmhonaaRunFns
namespace Go.Proofs.Ytdjgpoenlmhonaa
set_option linter.unusedVariables false
set_option maxRecDepth 100000
open Go.RowKit

/-- A run is handed back, and no word beside it. -/
def RetBack (st : Int) (xs : List ByteArray) (w : World) (e : Ending) (w' : World) : Prop :=
  ∃ A c, e = .returned (.agg #[.int .i64 st, .slice A xs.length c]) ∧ OwnStrs w' w.heap.size A c xs ∧ Below w.heap.size w w'
theorem two_boxes (w : World) (x y p q : Value) (t1 t2 : TypeId) :
    Cell2 ((w.alloc (.cells #[x, y] t1)).alloc (.cells #[p, q] t2)) w.heap.size x y ∧
    Cell2 ((w.alloc (.cells #[x, y] t1)).alloc (.cells #[p, q] t2)) (w.heap.size + 1) p q ∧
    ∀ i, ((w.alloc (.cells #[x, y] t1)).alloc (.cells #[p, q] t2)).frozen? ⟨w.heap.size + 1, i, none⟩ = false := by
  have e2 : (w.alloc (.cells #[x, y] t1)).heap.size = w.heap.size + 1 := by simp
  have c2 := Cell2.new (w.alloc (.cells #[x, y] t1)) p q t2
  have c4 := heap_alloc_new (w.alloc (.cells #[x, y] t1)) (.cells #[p, q] t2)
  rw [e2] at c2 c4
  refine ⟨(Cell2.new w x y t1).alloc _, c2, fun i => ?_⟩
  unfold World.frozen?
  simp only [c4]
  rfl


end Go.Proofs.Ytdjgpoenlmhonaa
