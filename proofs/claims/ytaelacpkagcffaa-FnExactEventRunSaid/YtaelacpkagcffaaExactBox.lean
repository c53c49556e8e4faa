/- Words for the exact laws: a run's box that is made before or behind a call. No condition. -/
import Derived.Test.YtaelacpkagcffaaExactWords
import Derived.Test.YtaelacpkagcffaaCutRun
import Derived.Deep.DeepCutAuto
namespace Go.Proofs.Ytaelacpkagcffaa
set_option linter.unusedVariables false
set_option maxRecDepth 100000
open Go.RowKit

theorem Cell2.grown {w w' : World} {b : Nat} {x y : Value} {g : Option Nat} (h : Cell2 w b x y) (hg : w.grownBy w' g) (hne : some b ≠ g) : Cell2 w' b x y := ⟨hg.cell h.c0 hne, hg.cell h.c1 hne⟩
end Go.Proofs.Ytaelacpkagcffaa
