/- Contracts of the draws of a flow from a code: DrawFlowValid, DrawFlowOrder, DrawRunNew. No condition. -/
import Derived.Test.YtdjgpoenlmhonaaDrawFlow
namespace Go.Proofs.Ytdjgpoenlmhonaa
set_option linter.unusedVariables false
set_option maxRecDepth 100000
open Go.RowKit

/-- A flow is drawn from a code. -/
def DrawnFlowTop (w : World) (e : Ending) (w' : World) : Prop :=
  ∃ (ver : Int) (SA : Option Addr) (sc : Nat) (ss : List St), e = .returned (.agg #[.int .i64 ver, .slice SA ss.length sc]) ∧ Sts w' w'.heap.size SA sc ss ∧ 1 ≤ ss.length ∧ ss.length ≤ 6 ∧
    (∀ s ∈ ss, (1 ≤ s.name.size ∧ s.name.size ≤ 6) ∧ s.after.length ≤ 4 ∧ ∀ x ∈ s.after, x.size ≤ 6) ∧ Below w.heap.size w w'
theorem Byts.alloc {w : World} {B c : Nat} {A : Option Addr} {zs : List Int} (h : Byts w B A c zs) (hB : B ≤ w.heap.size) (o : Obj) : Byts (w.alloc o) B A c zs := h.keep fun p hp => World.cell?_alloc_lt w o p (by omega)



end Go.Proofs.Ytdjgpoenlmhonaa
