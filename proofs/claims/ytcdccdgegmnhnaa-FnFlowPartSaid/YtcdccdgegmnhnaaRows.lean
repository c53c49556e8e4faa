/-
  No cell of these rows narrows 'for every input' (looked for: loops, veiled, ifaces, maps, wideKeys, modest, calm, conditions, laid).
  DERIVED. THE GIVEN ROWS OF THIS SEAT. 8 by the template 'for every input the law returns true; each argument reads behind the call as it read before'; 0 by the template 'total and deterministic' (their statements: YtcdccdgegmnhnaaTotals.lean).
  GIVEN WITH THE SEED: the statements are not yours to turn. If you find one false, say at which input.
  Laid BY PROGRAM, IN A SANDBOX (cutbox-rows.mjs): the forced cells as the released guide's own fill.sh prints them over the translation bb7b14876491e920… (all of the seat's roots in one cut). By AI agents, Wed Nov 11 2026. No macro, syntax, notation, axiom, sorry.
-/
import Derived.Test.YtcdccdgegmnhnaaChecked
import GoSem.Claim
import GoSem.ClaimJoined
import GoSem.ClaimMapViews
import Derived.JoinedTies
import Derived.KernelRfl
namespace Go.Proofs.Ytcdccdgegmnhnaa
/- THE CELL 'sum', in the pinned program and in every row, IS THE sha256 OF THE DUMP (.gsa) THAT YtcdccdgegmnhnaaProg.lean LOADS. Nothing in Lean hashes anything: it is a label: what it is worth is what the hold of that sum in a sandbox is worth. -/
noncomputable def Try.pinned : Pinned := { name := "ytcdccdgegmnhnaa", sum := "bb7b14876491e920b4dfd1456fefff764972ab30dad6ee17a2e9edabe1d4a2d7", checked := Try.checked }
namespace Rows
def none {H : Type} : Left H := { results := [], args := [] }

/-- 'laws.FnSortTwice': WHATEVER THE INPUT: true; the input reads as it did. -/
def fnSortTwiceSpec : ChangeSpec := { name := "fnSortTwice", fn := fun _ => fun
  | [d] => { results := [.lit (.bool true)], args := [d] }
  | _ => none }
def fnSortTwiceRow : OpenClaim := { program := "ytcdccdgegmnhnaa", sum := "bb7b14876491e920b4dfd1456fefff764972ab30dad6ee17a2e9edabe1d4a2d7", func := "loop.example/sagaflows/laws.FnSortTwice", spec := "fnSortTwice", unfollowed := true, recurses := true, apart := false }
def FnSortTwiceSaid : Prop := fnSortTwiceRow.holds Try.pinned (OpenSpec.ofChange fnSortTwiceSpec)

/-- ITS FALSE NEIGHBOUR: 'it returns false'. Refute it at one input. -/
def fnSortTwiceWrong : ChangeSpec := { name := "fnSortTwice", fn := fun _ => fun
  | [d] => { results := [.lit (.bool false)], args := [d] }
  | _ => none }
def FnSortTwiceWrongFalsely : Prop := fnSortTwiceRow.holds Try.pinned (OpenSpec.ofChange fnSortTwiceWrong)

/-- 'laws.FnExactNamesSort': WHATEVER THE INPUT: true; the input reads as it did. -/
def fnExactNamesSortSpec : ChangeSpec := { name := "fnExactNamesSort", fn := fun _ => fun
  | [d] => { results := [.lit (.bool true)], args := [d] }
  | _ => none }
def fnExactNamesSortRow : OpenClaim := { program := "ytcdccdgegmnhnaa", sum := "bb7b14876491e920b4dfd1456fefff764972ab30dad6ee17a2e9edabe1d4a2d7", func := "loop.example/sagaflows/laws.FnExactNamesSort", spec := "fnExactNamesSort", unfollowed := true, recurses := true, apart := false }
def FnExactNamesSortSaid : Prop := fnExactNamesSortRow.holds Try.pinned (OpenSpec.ofChange fnExactNamesSortSpec)

/-- ITS FALSE NEIGHBOUR: 'it returns false'. Refute it at one input. -/
def fnExactNamesSortWrong : ChangeSpec := { name := "fnExactNamesSort", fn := fun _ => fun
  | [d] => { results := [.lit (.bool false)], args := [d] }
  | _ => none }
def FnExactNamesSortWrongFalsely : Prop := fnExactNamesSortRow.holds Try.pinned (OpenSpec.ofChange fnExactNamesSortWrong)

/-- 'laws.FnSortLess': WHATEVER THE INPUT: true; the input reads as it did. -/
def fnSortLessSpec : ChangeSpec := { name := "fnSortLess", fn := fun _ => fun
  | [d] => { results := [.lit (.bool true)], args := [d] }
  | _ => none }
def fnSortLessRow : OpenClaim := { program := "ytcdccdgegmnhnaa", sum := "bb7b14876491e920b4dfd1456fefff764972ab30dad6ee17a2e9edabe1d4a2d7", func := "loop.example/sagaflows/laws.FnSortLess", spec := "fnSortLess", unfollowed := true, recurses := true, apart := false }
def FnSortLessSaid : Prop := fnSortLessRow.holds Try.pinned (OpenSpec.ofChange fnSortLessSpec)

/-- ITS FALSE NEIGHBOUR: 'it returns false'. Refute it at one input. -/
def fnSortLessWrong : ChangeSpec := { name := "fnSortLess", fn := fun _ => fun
  | [d] => { results := [.lit (.bool false)], args := [d] }
  | _ => none }
def FnSortLessWrongFalsely : Prop := fnSortLessRow.holds Try.pinned (OpenSpec.ofChange fnSortLessWrong)

/-- 'laws.FnSort': WHATEVER THE INPUT: true; the input reads as it did. -/
def fnSortSpec : ChangeSpec := { name := "fnSort", fn := fun _ => fun
  | [d] => { results := [.lit (.bool true)], args := [d] }
  | _ => none }
def fnSortRow : OpenClaim := { program := "ytcdccdgegmnhnaa", sum := "bb7b14876491e920b4dfd1456fefff764972ab30dad6ee17a2e9edabe1d4a2d7", func := "loop.example/sagaflows/laws.FnSort", spec := "fnSort", unfollowed := true, recurses := true, apart := false }
def FnSortSaid : Prop := fnSortRow.holds Try.pinned (OpenSpec.ofChange fnSortSpec)

/-- ITS FALSE NEIGHBOUR: 'it returns false'. Refute it at one input. -/
def fnSortWrong : ChangeSpec := { name := "fnSort", fn := fun _ => fun
  | [d] => { results := [.lit (.bool false)], args := [d] }
  | _ => none }
def FnSortWrongFalsely : Prop := fnSortRow.holds Try.pinned (OpenSpec.ofChange fnSortWrong)

/-- 'laws.FnStepNames': WHATEVER THE INPUT: true; the input reads as it did. -/
def fnStepNamesSpec : ChangeSpec := { name := "fnStepNames", fn := fun _ => fun
  | [d] => { results := [.lit (.bool true)], args := [d] }
  | _ => none }
def fnStepNamesRow : OpenClaim := { program := "ytcdccdgegmnhnaa", sum := "bb7b14876491e920b4dfd1456fefff764972ab30dad6ee17a2e9edabe1d4a2d7", func := "loop.example/sagaflows/laws.FnStepNames", spec := "fnStepNames", unfollowed := true, recurses := true, apart := false }
def FnStepNamesSaid : Prop := fnStepNamesRow.holds Try.pinned (OpenSpec.ofChange fnStepNamesSpec)

/-- ITS FALSE NEIGHBOUR: 'it returns false'. Refute it at one input. -/
def fnStepNamesWrong : ChangeSpec := { name := "fnStepNames", fn := fun _ => fun
  | [d] => { results := [.lit (.bool false)], args := [d] }
  | _ => none }
def FnStepNamesWrongFalsely : Prop := fnStepNamesRow.holds Try.pinned (OpenSpec.ofChange fnStepNamesWrong)

/-- 'laws.FnStep': WHATEVER THE INPUT: true; the input reads as it did. -/
def fnStepSpec : ChangeSpec := { name := "fnStep", fn := fun _ => fun
  | [d] => { results := [.lit (.bool true)], args := [d] }
  | _ => none }
def fnStepRow : OpenClaim := { program := "ytcdccdgegmnhnaa", sum := "bb7b14876491e920b4dfd1456fefff764972ab30dad6ee17a2e9edabe1d4a2d7", func := "loop.example/sagaflows/laws.FnStep", spec := "fnStep", apart := false }
def FnStepSaid : Prop := fnStepRow.holds Try.pinned (OpenSpec.ofChange fnStepSpec)

/-- ITS FALSE NEIGHBOUR: 'it returns false'. Refute it at one input. -/
def fnStepWrong : ChangeSpec := { name := "fnStep", fn := fun _ => fun
  | [d] => { results := [.lit (.bool false)], args := [d] }
  | _ => none }
def FnStepWrongFalsely : Prop := fnStepRow.holds Try.pinned (OpenSpec.ofChange fnStepWrong)

/-- 'laws.FnEventsValid': WHATEVER THE INPUT: true; the input reads as it did. -/
def fnEventsValidSpec : ChangeSpec := { name := "fnEventsValid", fn := fun _ => fun
  | [d1, d2] => { results := [.lit (.bool true)], args := [d1, d2] }
  | _ => none }
def fnEventsValidRow : OpenClaim := { program := "ytcdccdgegmnhnaa", sum := "bb7b14876491e920b4dfd1456fefff764972ab30dad6ee17a2e9edabe1d4a2d7", func := "loop.example/sagaflows/laws.FnEventsValid", spec := "fnEventsValid", apart := false }
def FnEventsValidSaid : Prop := fnEventsValidRow.holds Try.pinned (OpenSpec.ofChange fnEventsValidSpec)

/-- ITS FALSE NEIGHBOUR: 'it returns false'. Refute it at one input. -/
def fnEventsValidWrong : ChangeSpec := { name := "fnEventsValid", fn := fun _ => fun
  | [d1, d2] => { results := [.lit (.bool false)], args := [d1, d2] }
  | _ => none }
def FnEventsValidWrongFalsely : Prop := fnEventsValidRow.holds Try.pinned (OpenSpec.ofChange fnEventsValidWrong)

/-- 'laws.FnFlowPart': WHATEVER THE INPUT: true; the input reads as it did. -/
def fnFlowPartSpec : ChangeSpec := { name := "fnFlowPart", fn := fun _ => fun
  | [d] => { results := [.lit (.bool true)], args := [d] }
  | _ => none }
def fnFlowPartRow : OpenClaim := { program := "ytcdccdgegmnhnaa", sum := "bb7b14876491e920b4dfd1456fefff764972ab30dad6ee17a2e9edabe1d4a2d7", func := "loop.example/sagaflows/laws.FnFlowPart", spec := "fnFlowPart", apart := false }
def FnFlowPartSaid : Prop := fnFlowPartRow.holds Try.pinned (OpenSpec.ofChange fnFlowPartSpec)

/-- ITS FALSE NEIGHBOUR: 'it returns false'. Refute it at one input. -/
def fnFlowPartWrong : ChangeSpec := { name := "fnFlowPart", fn := fun _ => fun
  | [d] => { results := [.lit (.bool false)], args := [d] }
  | _ => none }
def FnFlowPartWrongFalsely : Prop := fnFlowPartRow.holds Try.pinned (OpenSpec.ofChange fnFlowPartWrong)

/- THE SECOND FORM. 'bulk': how many values and letters a reading holds, each counted each time it is reached (what is shared counts as often as it is met; a slice's spare places count too). A statement '..UptoSaid' is the law's where the arguments, and the package variables that the reading takes, are together of bulk at most 1048576: NARROWER than '..Said'. Prove '..Said' where nothing that the law and all that it calls make is longer than what came in: it says more and counts as full. Else prove '..UptoSaid'. A law counts once. -/
mutual
def uptoBulk {H : Type} : DataW H → Nat
  | .lit (.string bytes) => bytes.length + 1
  | .lit _ => 1
  | .nil => 1
  | .ptr d => uptoBulk d + 1
  | .slice elems spare => uptoBulkAll elems + uptoBulkAll spare + 1
  | .agg parts => uptoBulkAll parts + 1
  | .iface _ d => uptoBulk d + 1
  | .map entries => uptoBulkEntries entries + 1
  | .held _ => 1
def uptoBulkAll {H : Type} : List (DataW H) → Nat
  | [] => 0
  | d :: r => uptoBulk d + uptoBulkAll r
def uptoBulkEntries {H : Type} : List (Lit × DataW H) → Nat
  | [] => 0
  | x :: r => uptoBulkEntry x + uptoBulkEntries r
def uptoBulkEntry {H : Type} : Lit × DataW H → Nat
  | (.string bytes, d) => bytes.length + uptoBulk d + 1
  | (_, d) => uptoBulk d + 1
 end
def uptoSmall : (H : Type) → List (DataW H) → Bool := fun _ ds => decide (uptoBulkAll ds ≤ 1048576)
def OpenSpec.upto (s : _root_.Go.ChangeSpec) : _root_.Go.OpenSpec := { _root_.Go.OpenSpec.ofChange s with cond := some uptoSmall }

/-- 'laws.FnSortTwice', WHERE WHAT IT READS IS OF BULK AT MOST 1048576: true; the input reads as it did. -/
def fnSortTwiceUptoRow : OpenClaim := { program := "ytcdccdgegmnhnaa", sum := "bb7b14876491e920b4dfd1456fefff764972ab30dad6ee17a2e9edabe1d4a2d7", func := "loop.example/sagaflows/laws.FnSortTwice", spec := "fnSortTwice", unfollowed := true, recurses := true, apart := false, narrowed := true }
def FnSortTwiceUptoSaid : Prop := fnSortTwiceUptoRow.holds Try.pinned (OpenSpec.upto fnSortTwiceSpec)

/-- 'laws.FnExactNamesSort', WHERE WHAT IT READS IS OF BULK AT MOST 1048576: true; the input reads as it did. -/
def fnExactNamesSortUptoRow : OpenClaim := { program := "ytcdccdgegmnhnaa", sum := "bb7b14876491e920b4dfd1456fefff764972ab30dad6ee17a2e9edabe1d4a2d7", func := "loop.example/sagaflows/laws.FnExactNamesSort", spec := "fnExactNamesSort", unfollowed := true, recurses := true, apart := false, narrowed := true }
def FnExactNamesSortUptoSaid : Prop := fnExactNamesSortUptoRow.holds Try.pinned (OpenSpec.upto fnExactNamesSortSpec)

/-- 'laws.FnSortLess', WHERE WHAT IT READS IS OF BULK AT MOST 1048576: true; the input reads as it did. -/
def fnSortLessUptoRow : OpenClaim := { program := "ytcdccdgegmnhnaa", sum := "bb7b14876491e920b4dfd1456fefff764972ab30dad6ee17a2e9edabe1d4a2d7", func := "loop.example/sagaflows/laws.FnSortLess", spec := "fnSortLess", unfollowed := true, recurses := true, apart := false, narrowed := true }
def FnSortLessUptoSaid : Prop := fnSortLessUptoRow.holds Try.pinned (OpenSpec.upto fnSortLessSpec)

/-- 'laws.FnSort', WHERE WHAT IT READS IS OF BULK AT MOST 1048576: true; the input reads as it did. -/
def fnSortUptoRow : OpenClaim := { program := "ytcdccdgegmnhnaa", sum := "bb7b14876491e920b4dfd1456fefff764972ab30dad6ee17a2e9edabe1d4a2d7", func := "loop.example/sagaflows/laws.FnSort", spec := "fnSort", unfollowed := true, recurses := true, apart := false, narrowed := true }
def FnSortUptoSaid : Prop := fnSortUptoRow.holds Try.pinned (OpenSpec.upto fnSortSpec)

/-- 'laws.FnStepNames', WHERE WHAT IT READS IS OF BULK AT MOST 1048576: true; the input reads as it did. -/
def fnStepNamesUptoRow : OpenClaim := { program := "ytcdccdgegmnhnaa", sum := "bb7b14876491e920b4dfd1456fefff764972ab30dad6ee17a2e9edabe1d4a2d7", func := "loop.example/sagaflows/laws.FnStepNames", spec := "fnStepNames", unfollowed := true, recurses := true, apart := false, narrowed := true }
def FnStepNamesUptoSaid : Prop := fnStepNamesUptoRow.holds Try.pinned (OpenSpec.upto fnStepNamesSpec)

/-- 'laws.FnStep', WHERE WHAT IT READS IS OF BULK AT MOST 1048576: true; the input reads as it did. -/
def fnStepUptoRow : OpenClaim := { program := "ytcdccdgegmnhnaa", sum := "bb7b14876491e920b4dfd1456fefff764972ab30dad6ee17a2e9edabe1d4a2d7", func := "loop.example/sagaflows/laws.FnStep", spec := "fnStep", apart := false, narrowed := true }
def FnStepUptoSaid : Prop := fnStepUptoRow.holds Try.pinned (OpenSpec.upto fnStepSpec)

/-- 'laws.FnEventsValid', WHERE WHAT IT READS IS OF BULK AT MOST 1048576: true; the input reads as it did. -/
def fnEventsValidUptoRow : OpenClaim := { program := "ytcdccdgegmnhnaa", sum := "bb7b14876491e920b4dfd1456fefff764972ab30dad6ee17a2e9edabe1d4a2d7", func := "loop.example/sagaflows/laws.FnEventsValid", spec := "fnEventsValid", apart := false, narrowed := true }
def FnEventsValidUptoSaid : Prop := fnEventsValidUptoRow.holds Try.pinned (OpenSpec.upto fnEventsValidSpec)

/-- 'laws.FnFlowPart', WHERE WHAT IT READS IS OF BULK AT MOST 1048576: true; the input reads as it did. -/
def fnFlowPartUptoRow : OpenClaim := { program := "ytcdccdgegmnhnaa", sum := "bb7b14876491e920b4dfd1456fefff764972ab30dad6ee17a2e9edabe1d4a2d7", func := "loop.example/sagaflows/laws.FnFlowPart", spec := "fnFlowPart", apart := false, narrowed := true }
def FnFlowPartUptoSaid : Prop := fnFlowPartUptoRow.holds Try.pinned (OpenSpec.upto fnFlowPartSpec)

end Rows
end Go.Proofs.Ytcdccdgegmnhnaa
