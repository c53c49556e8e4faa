/- Contracts of the reference's functions on runs: l3Can. Condition: at most 2000000 steps. -/
import Derived.Test.YtdjgpoenlmhonaaSpecRuns
import Derived.Test.YtdjgpoenlmhonaaAppend2
import Derived.Deep.RegionHeld3
namespace Go.Proofs.Ytdjgpoenlmhonaa
set_option linter.unusedVariables false
set_option maxRecDepth 100000
open Go.RowKit
set_option linter.unusedSimpArgs false

end Go.Proofs.Ytdjgpoenlmhonaa
