/- Contract of RunValid of the program. Condition: at most 2000000 steps. -/
import Derived.Test.YtdjgpoenlmhonaaRuns
import Derived.Deep.QuietTactic
import Derived.BigQuiet
import Derived.Test.YtdjgpoenlmhonaaFlowValid
import Derived.Test.YtdjgpoenlmhonaaRunOuts
namespace Go.Proofs.Ytdjgpoenlmhonaa
set_option linter.unusedVariables false
set_option maxRecDepth 100000
open Go.RowKit


theorem ready_n (ver : Int) (A D : Option Addr) (c d n : Nat) (ss : List St) (done : List ByteArray) (w : World) (B B' : Nat) (hn : Hid (done.length = n)) (h : Sts w B A c ss) (hd : Strs w B' D d done) (hl : ss.length ≤ 2000000) :
    Calls Try.prog 26 #[flowV ver A ss.length c, .slice D n d] w (RetStrs (ready ss done) w) := by
  obtain rfl := hn.out
  exact ready_any ver A D c d ss done w B B' h hd hl

end Go.Proofs.Ytdjgpoenlmhonaa
