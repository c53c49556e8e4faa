/- A flow that is not valid. No program. No condition. -/
import Derived.Test.YtdjgpoenlmhonaaFlowPlain
namespace Go.Proofs.Ytdjgpoenlmhonaa
set_option linter.unusedVariables false
set_option maxRecDepth 100000
open Go

theorem flowOk_no {ver : Int} {ss : List St} (h : ¬ (1 ≤ ver ∧ ver ≤ 99 ∧ 1 ≤ ss.length ∧ ss.length ≤ 8 ∧ asc (names ss) = true ∧ (∀ s ∈ ss, stepOk2 ss s = true) ∧ (ord ss).length = ss.length)) : flowOk ver ss = false := by
  cases h' : flowOk ver ss
  · rfl
  · exact absurd (flowOk_iff.1 h') h
end Go.Proofs.Ytdjgpoenlmhonaa
