/- Contracts of the laws' own functions on steps: szStep, toStep, eqStep. Condition: sizes as the laws ask them. -/
import Derived.Test.YtcdccdgegmnhnaaCopies
import Derived.Test.YtcdccdgegmnhnaaSteps
namespace Go.Proofs.Ytcdccdgegmnhnaa
set_option linter.unusedVariables false
set_option maxRecDepth 100000
open Go.RowKit

/-- A step is handed back; what it comes after lies in memory of the call's own. -/
def RetStep (nm : ByteArray) (xs : List ByteArray) (u : Bool) (w : World) (e : Ending) (w' : World) : Prop :=
  ∃ A c, e = .returned (.agg #[.string nm, .slice A xs.length c, .bool u]) ∧ OwnStrs w' w.heap.size A c xs ∧ Below w.heap.size w w'

end Go.Proofs.Ytcdccdgegmnhnaa
