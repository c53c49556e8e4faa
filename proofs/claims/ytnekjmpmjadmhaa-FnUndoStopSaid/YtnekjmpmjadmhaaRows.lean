/-
  No cell of these rows narrows 'for every input' (looked for: loops, veiled, ifaces, maps, wideKeys, modest, calm, conditions, laid).
  DERIVED. THE GIVEN ROWS OF THIS SEAT. 10 by the template 'for every input the law returns true; each argument reads behind the call as it read before'; 0 by the template 'total and deterministic' (their statements: YtnekjmpmjadmhaaTotals.lean).
  GIVEN WITH THE SEED: the statements are not yours to turn. If you find one false, say at which input.
  Laid BY PROGRAM, IN A SANDBOX (cutbox-rows.mjs): the forced cells as the released guide's own fill.sh prints them over the translation 06f81776856e8351… (all of the seat's roots in one cut). By AI agents, Wed Nov 11 2026. No macro, syntax, notation, axiom, sorry.
-/
import Derived.Test.YtnekjmpmjadmhaaChecked
import GoSem.Claim
import GoSem.ClaimJoined
import GoSem.ClaimMapViews
import Derived.JoinedTies
import Derived.KernelRfl
namespace Go.Proofs.Ytnekjmpmjadmhaa
/- THE CELL 'sum', in the pinned program and in every row, IS THE sha256 OF THE DUMP (.gsa) THAT YtnekjmpmjadmhaaProg.lean LOADS. Nothing in Lean hashes anything: it is a label: what it is worth is what the hold of that sum in a sandbox is worth. -/
noncomputable def Try.pinned : Pinned := { name := "ytnekjmpmjadmhaa", sum := "06f81776856e8351525f43db4a4f9e129d8da216144a21297ff08926ba70b65b", checked := Try.checked }
namespace Rows
def none {H : Type} : Left H := { results := [], args := [] }

/-- 'laws.FnUndoAll': WHATEVER THE INPUT: true; the input reads as it did. -/
def fnUndoAllSpec : ChangeSpec := { name := "fnUndoAll", fn := fun _ => fun
  | [d] => { results := [.lit (.bool true)], args := [d] }
  | _ => none }
def fnUndoAllRow : OpenClaim := { program := "ytnekjmpmjadmhaa", sum := "06f81776856e8351525f43db4a4f9e129d8da216144a21297ff08926ba70b65b", func := "loop.example/sagaflows/laws.FnUndoAll", spec := "fnUndoAll", unfollowed := true, recurses := true, apart := false }
def FnUndoAllSaid : Prop := fnUndoAllRow.holds Try.pinned (OpenSpec.ofChange fnUndoAllSpec)

/-- ITS FALSE NEIGHBOUR: 'it returns false'. Refute it at one input. -/
def fnUndoAllWrong : ChangeSpec := { name := "fnUndoAll", fn := fun _ => fun
  | [d] => { results := [.lit (.bool false)], args := [d] }
  | _ => none }
def FnUndoAllWrongFalsely : Prop := fnUndoAllRow.holds Try.pinned (OpenSpec.ofChange fnUndoAllWrong)

/-- 'laws.FnUndo': WHATEVER THE INPUT: true; the input reads as it did. -/
def fnUndoSpec : ChangeSpec := { name := "fnUndo", fn := fun _ => fun
  | [d] => { results := [.lit (.bool true)], args := [d] }
  | _ => none }
def fnUndoRow : OpenClaim := { program := "ytnekjmpmjadmhaa", sum := "06f81776856e8351525f43db4a4f9e129d8da216144a21297ff08926ba70b65b", func := "loop.example/sagaflows/laws.FnUndo", spec := "fnUndo", unfollowed := true, recurses := true, apart := false }
def FnUndoSaid : Prop := fnUndoRow.holds Try.pinned (OpenSpec.ofChange fnUndoSpec)

/-- ITS FALSE NEIGHBOUR: 'it returns false'. Refute it at one input. -/
def fnUndoWrong : ChangeSpec := { name := "fnUndo", fn := fun _ => fun
  | [d] => { results := [.lit (.bool false)], args := [d] }
  | _ => none }
def FnUndoWrongFalsely : Prop := fnUndoRow.holds Try.pinned (OpenSpec.ofChange fnUndoWrong)

/-- 'laws.FnUndoStop': WHATEVER THE INPUT: true; the input reads as it did. -/
def fnUndoStopSpec : ChangeSpec := { name := "fnUndoStop", fn := fun _ => fun
  | [d] => { results := [.lit (.bool true)], args := [d] }
  | _ => none }
def fnUndoStopRow : OpenClaim := { program := "ytnekjmpmjadmhaa", sum := "06f81776856e8351525f43db4a4f9e129d8da216144a21297ff08926ba70b65b", func := "loop.example/sagaflows/laws.FnUndoStop", spec := "fnUndoStop", unfollowed := true, recurses := true, apart := false }
def FnUndoStopSaid : Prop := fnUndoStopRow.holds Try.pinned (OpenSpec.ofChange fnUndoStopSpec)

/-- ITS FALSE NEIGHBOUR: 'it returns false'. Refute it at one input. -/
def fnUndoStopWrong : ChangeSpec := { name := "fnUndoStop", fn := fun _ => fun
  | [d] => { results := [.lit (.bool false)], args := [d] }
  | _ => none }
def FnUndoStopWrongFalsely : Prop := fnUndoStopRow.holds Try.pinned (OpenSpec.ofChange fnUndoStopWrong)

/-- 'laws.FnDo': WHATEVER THE INPUT: true; the input reads as it did. -/
def fnDoSpec : ChangeSpec := { name := "fnDo", fn := fun _ => fun
  | [d] => { results := [.lit (.bool true)], args := [d] }
  | _ => none }
def fnDoRow : OpenClaim := { program := "ytnekjmpmjadmhaa", sum := "06f81776856e8351525f43db4a4f9e129d8da216144a21297ff08926ba70b65b", func := "loop.example/sagaflows/laws.FnDo", spec := "fnDo", unfollowed := true, recurses := true, apart := false }
def FnDoSaid : Prop := fnDoRow.holds Try.pinned (OpenSpec.ofChange fnDoSpec)

/-- ITS FALSE NEIGHBOUR: 'it returns false'. Refute it at one input. -/
def fnDoWrong : ChangeSpec := { name := "fnDo", fn := fun _ => fun
  | [d] => { results := [.lit (.bool false)], args := [d] }
  | _ => none }
def FnDoWrongFalsely : Prop := fnDoRow.holds Try.pinned (OpenSpec.ofChange fnDoWrong)

/-- 'laws.FnFail': WHATEVER THE INPUT: true; the input reads as it did. -/
def fnFailSpec : ChangeSpec := { name := "fnFail", fn := fun _ => fun
  | [d] => { results := [.lit (.bool true)], args := [d] }
  | _ => none }
def fnFailRow : OpenClaim := { program := "ytnekjmpmjadmhaa", sum := "06f81776856e8351525f43db4a4f9e129d8da216144a21297ff08926ba70b65b", func := "loop.example/sagaflows/laws.FnFail", spec := "fnFail", unfollowed := true, recurses := true, apart := false }
def FnFailSaid : Prop := fnFailRow.holds Try.pinned (OpenSpec.ofChange fnFailSpec)

/-- ITS FALSE NEIGHBOUR: 'it returns false'. Refute it at one input. -/
def fnFailWrong : ChangeSpec := { name := "fnFail", fn := fun _ => fun
  | [d] => { results := [.lit (.bool false)], args := [d] }
  | _ => none }
def FnFailWrongFalsely : Prop := fnFailRow.holds Try.pinned (OpenSpec.ofChange fnFailWrong)

/-- 'laws.FnFailDo': WHATEVER THE INPUT: true; the input reads as it did. -/
def fnFailDoSpec : ChangeSpec := { name := "fnFailDo", fn := fun _ => fun
  | [d] => { results := [.lit (.bool true)], args := [d] }
  | _ => none }
def fnFailDoRow : OpenClaim := { program := "ytnekjmpmjadmhaa", sum := "06f81776856e8351525f43db4a4f9e129d8da216144a21297ff08926ba70b65b", func := "loop.example/sagaflows/laws.FnFailDo", spec := "fnFailDo", unfollowed := true, recurses := true, apart := false }
def FnFailDoSaid : Prop := fnFailDoRow.holds Try.pinned (OpenSpec.ofChange fnFailDoSpec)

/-- ITS FALSE NEIGHBOUR: 'it returns false'. Refute it at one input. -/
def fnFailDoWrong : ChangeSpec := { name := "fnFailDo", fn := fun _ => fun
  | [d] => { results := [.lit (.bool false)], args := [d] }
  | _ => none }
def FnFailDoWrongFalsely : Prop := fnFailDoRow.holds Try.pinned (OpenSpec.ofChange fnFailDoWrong)

/-- 'laws.FnDoNext': WHATEVER THE INPUT: true; the input reads as it did. -/
def fnDoNextSpec : ChangeSpec := { name := "fnDoNext", fn := fun _ => fun
  | [d] => { results := [.lit (.bool true)], args := [d] }
  | _ => none }
def fnDoNextRow : OpenClaim := { program := "ytnekjmpmjadmhaa", sum := "06f81776856e8351525f43db4a4f9e129d8da216144a21297ff08926ba70b65b", func := "loop.example/sagaflows/laws.FnDoNext", spec := "fnDoNext", unfollowed := true, recurses := true, apart := false }
def FnDoNextSaid : Prop := fnDoNextRow.holds Try.pinned (OpenSpec.ofChange fnDoNextSpec)

/-- ITS FALSE NEIGHBOUR: 'it returns false'. Refute it at one input. -/
def fnDoNextWrong : ChangeSpec := { name := "fnDoNext", fn := fun _ => fun
  | [d] => { results := [.lit (.bool false)], args := [d] }
  | _ => none }
def FnDoNextWrongFalsely : Prop := fnDoNextRow.holds Try.pinned (OpenSpec.ofChange fnDoNextWrong)

/-- 'laws.FnExactRunUndo': WHATEVER THE INPUT: true; the input reads as it did. -/
def fnExactRunUndoSpec : ChangeSpec := { name := "fnExactRunUndo", fn := fun _ => fun
  | [d1, d2] => { results := [.lit (.bool true)], args := [d1, d2] }
  | _ => none }
def fnExactRunUndoRow : OpenClaim := { program := "ytnekjmpmjadmhaa", sum := "06f81776856e8351525f43db4a4f9e129d8da216144a21297ff08926ba70b65b", func := "loop.example/sagaflows/laws.FnExactRunUndo", spec := "fnExactRunUndo", unfollowed := true, recurses := true, apart := false }
def FnExactRunUndoSaid : Prop := fnExactRunUndoRow.holds Try.pinned (OpenSpec.ofChange fnExactRunUndoSpec)

/-- ITS FALSE NEIGHBOUR: 'it returns false'. Refute it at one input. -/
def fnExactRunUndoWrong : ChangeSpec := { name := "fnExactRunUndo", fn := fun _ => fun
  | [d1, d2] => { results := [.lit (.bool false)], args := [d1, d2] }
  | _ => none }
def FnExactRunUndoWrongFalsely : Prop := fnExactRunUndoRow.holds Try.pinned (OpenSpec.ofChange fnExactRunUndoWrong)

/-- 'laws.FnExactRunDo': WHATEVER THE INPUT: true; the input reads as it did. -/
def fnExactRunDoSpec : ChangeSpec := { name := "fnExactRunDo", fn := fun _ => fun
  | [d1, d2, d3] => { results := [.lit (.bool true)], args := [d1, d2, d3] }
  | _ => none }
def fnExactRunDoRow : OpenClaim := { program := "ytnekjmpmjadmhaa", sum := "06f81776856e8351525f43db4a4f9e129d8da216144a21297ff08926ba70b65b", func := "loop.example/sagaflows/laws.FnExactRunDo", spec := "fnExactRunDo", unfollowed := true, recurses := true, apart := false }
def FnExactRunDoSaid : Prop := fnExactRunDoRow.holds Try.pinned (OpenSpec.ofChange fnExactRunDoSpec)

/-- ITS FALSE NEIGHBOUR: 'it returns false'. Refute it at one input. -/
def fnExactRunDoWrong : ChangeSpec := { name := "fnExactRunDo", fn := fun _ => fun
  | [d1, d2, d3] => { results := [.lit (.bool false)], args := [d1, d2, d3] }
  | _ => none }
def FnExactRunDoWrongFalsely : Prop := fnExactRunDoRow.holds Try.pinned (OpenSpec.ofChange fnExactRunDoWrong)

/-- 'laws.FnExactRunFail': WHATEVER THE INPUT: true; the input reads as it did. -/
def fnExactRunFailSpec : ChangeSpec := { name := "fnExactRunFail", fn := fun _ => fun
  | [d1, d2, d3] => { results := [.lit (.bool true)], args := [d1, d2, d3] }
  | _ => none }
def fnExactRunFailRow : OpenClaim := { program := "ytnekjmpmjadmhaa", sum := "06f81776856e8351525f43db4a4f9e129d8da216144a21297ff08926ba70b65b", func := "loop.example/sagaflows/laws.FnExactRunFail", spec := "fnExactRunFail", unfollowed := true, recurses := true, apart := false }
def FnExactRunFailSaid : Prop := fnExactRunFailRow.holds Try.pinned (OpenSpec.ofChange fnExactRunFailSpec)

/-- ITS FALSE NEIGHBOUR: 'it returns false'. Refute it at one input. -/
def fnExactRunFailWrong : ChangeSpec := { name := "fnExactRunFail", fn := fun _ => fun
  | [d1, d2, d3] => { results := [.lit (.bool false)], args := [d1, d2, d3] }
  | _ => none }
def FnExactRunFailWrongFalsely : Prop := fnExactRunFailRow.holds Try.pinned (OpenSpec.ofChange fnExactRunFailWrong)

/- THE SECOND FORM. 'bulk': how many values and letters a reading holds, each counted each time it is reached (what is shared counts as often as it is met; a slice's spare places count too). A statement '..UptoSaid' is the law's where the arguments, and the package variables that the reading takes, are together of bulk at most 1048576: NARROWER than '..Said'. Prove '..Said' where nothing that the law and all that it calls make is longer than what came in: it says more and counts as full. Else prove '..UptoSaid'. A law counts once. -/
mutual
def uptoBulk {H : Type} : DataW H → Nat
  | .lit (.string bytes) => bytes.length + 1
  | .lit _ => 1
  | .nil => 1
  | .ptr d => uptoBulk d + 1
  | .slice elems spare => uptoBulkAll elems + uptoBulkAll spare + 1
  | .agg parts => uptoBulkAll parts + 1
  | .iface _ d => uptoBulk d + 1
  | .map entries => uptoBulkEntries entries + 1
  | .held _ => 1
def uptoBulkAll {H : Type} : List (DataW H) → Nat
  | [] => 0
  | d :: r => uptoBulk d + uptoBulkAll r
def uptoBulkEntries {H : Type} : List (Lit × DataW H) → Nat
  | [] => 0
  | x :: r => uptoBulkEntry x + uptoBulkEntries r
def uptoBulkEntry {H : Type} : Lit × DataW H → Nat
  | (.string bytes, d) => bytes.length + uptoBulk d + 1
  | (_, d) => uptoBulk d + 1
 end
def uptoSmall : (H : Type) → List (DataW H) → Bool := fun _ ds => decide (uptoBulkAll ds ≤ 1048576)
def OpenSpec.upto (s : _root_.Go.ChangeSpec) : _root_.Go.OpenSpec := { _root_.Go.OpenSpec.ofChange s with cond := some uptoSmall }

/-- 'laws.FnUndoAll', WHERE WHAT IT READS IS OF BULK AT MOST 1048576: true; the input reads as it did. -/
def fnUndoAllUptoRow : OpenClaim := { program := "ytnekjmpmjadmhaa", sum := "06f81776856e8351525f43db4a4f9e129d8da216144a21297ff08926ba70b65b", func := "loop.example/sagaflows/laws.FnUndoAll", spec := "fnUndoAll", unfollowed := true, recurses := true, apart := false, narrowed := true }
def FnUndoAllUptoSaid : Prop := fnUndoAllUptoRow.holds Try.pinned (OpenSpec.upto fnUndoAllSpec)

/-- 'laws.FnUndo', WHERE WHAT IT READS IS OF BULK AT MOST 1048576: true; the input reads as it did. -/
def fnUndoUptoRow : OpenClaim := { program := "ytnekjmpmjadmhaa", sum := "06f81776856e8351525f43db4a4f9e129d8da216144a21297ff08926ba70b65b", func := "loop.example/sagaflows/laws.FnUndo", spec := "fnUndo", unfollowed := true, recurses := true, apart := false, narrowed := true }
def FnUndoUptoSaid : Prop := fnUndoUptoRow.holds Try.pinned (OpenSpec.upto fnUndoSpec)

/-- 'laws.FnUndoStop', WHERE WHAT IT READS IS OF BULK AT MOST 1048576: true; the input reads as it did. -/
def fnUndoStopUptoRow : OpenClaim := { program := "ytnekjmpmjadmhaa", sum := "06f81776856e8351525f43db4a4f9e129d8da216144a21297ff08926ba70b65b", func := "loop.example/sagaflows/laws.FnUndoStop", spec := "fnUndoStop", unfollowed := true, recurses := true, apart := false, narrowed := true }
def FnUndoStopUptoSaid : Prop := fnUndoStopUptoRow.holds Try.pinned (OpenSpec.upto fnUndoStopSpec)

/-- 'laws.FnDo', WHERE WHAT IT READS IS OF BULK AT MOST 1048576: true; the input reads as it did. -/
def fnDoUptoRow : OpenClaim := { program := "ytnekjmpmjadmhaa", sum := "06f81776856e8351525f43db4a4f9e129d8da216144a21297ff08926ba70b65b", func := "loop.example/sagaflows/laws.FnDo", spec := "fnDo", unfollowed := true, recurses := true, apart := false, narrowed := true }
def FnDoUptoSaid : Prop := fnDoUptoRow.holds Try.pinned (OpenSpec.upto fnDoSpec)

/-- 'laws.FnFail', WHERE WHAT IT READS IS OF BULK AT MOST 1048576: true; the input reads as it did. -/
def fnFailUptoRow : OpenClaim := { program := "ytnekjmpmjadmhaa", sum := "06f81776856e8351525f43db4a4f9e129d8da216144a21297ff08926ba70b65b", func := "loop.example/sagaflows/laws.FnFail", spec := "fnFail", unfollowed := true, recurses := true, apart := false, narrowed := true }
def FnFailUptoSaid : Prop := fnFailUptoRow.holds Try.pinned (OpenSpec.upto fnFailSpec)

/-- 'laws.FnFailDo', WHERE WHAT IT READS IS OF BULK AT MOST 1048576: true; the input reads as it did. -/
def fnFailDoUptoRow : OpenClaim := { program := "ytnekjmpmjadmhaa", sum := "06f81776856e8351525f43db4a4f9e129d8da216144a21297ff08926ba70b65b", func := "loop.example/sagaflows/laws.FnFailDo", spec := "fnFailDo", unfollowed := true, recurses := true, apart := false, narrowed := true }
def FnFailDoUptoSaid : Prop := fnFailDoUptoRow.holds Try.pinned (OpenSpec.upto fnFailDoSpec)

/-- 'laws.FnDoNext', WHERE WHAT IT READS IS OF BULK AT MOST 1048576: true; the input reads as it did. -/
def fnDoNextUptoRow : OpenClaim := { program := "ytnekjmpmjadmhaa", sum := "06f81776856e8351525f43db4a4f9e129d8da216144a21297ff08926ba70b65b", func := "loop.example/sagaflows/laws.FnDoNext", spec := "fnDoNext", unfollowed := true, recurses := true, apart := false, narrowed := true }
def FnDoNextUptoSaid : Prop := fnDoNextUptoRow.holds Try.pinned (OpenSpec.upto fnDoNextSpec)

/-- 'laws.FnExactRunUndo', WHERE WHAT IT READS IS OF BULK AT MOST 1048576: true; the input reads as it did. -/
def fnExactRunUndoUptoRow : OpenClaim := { program := "ytnekjmpmjadmhaa", sum := "06f81776856e8351525f43db4a4f9e129d8da216144a21297ff08926ba70b65b", func := "loop.example/sagaflows/laws.FnExactRunUndo", spec := "fnExactRunUndo", unfollowed := true, recurses := true, apart := false, narrowed := true }
def FnExactRunUndoUptoSaid : Prop := fnExactRunUndoUptoRow.holds Try.pinned (OpenSpec.upto fnExactRunUndoSpec)

/-- 'laws.FnExactRunDo', WHERE WHAT IT READS IS OF BULK AT MOST 1048576: true; the input reads as it did. -/
def fnExactRunDoUptoRow : OpenClaim := { program := "ytnekjmpmjadmhaa", sum := "06f81776856e8351525f43db4a4f9e129d8da216144a21297ff08926ba70b65b", func := "loop.example/sagaflows/laws.FnExactRunDo", spec := "fnExactRunDo", unfollowed := true, recurses := true, apart := false, narrowed := true }
def FnExactRunDoUptoSaid : Prop := fnExactRunDoUptoRow.holds Try.pinned (OpenSpec.upto fnExactRunDoSpec)

/-- 'laws.FnExactRunFail', WHERE WHAT IT READS IS OF BULK AT MOST 1048576: true; the input reads as it did. -/
def fnExactRunFailUptoRow : OpenClaim := { program := "ytnekjmpmjadmhaa", sum := "06f81776856e8351525f43db4a4f9e129d8da216144a21297ff08926ba70b65b", func := "loop.example/sagaflows/laws.FnExactRunFail", spec := "fnExactRunFail", unfollowed := true, recurses := true, apart := false, narrowed := true }
def FnExactRunFailUptoSaid : Prop := fnExactRunFailUptoRow.holds Try.pinned (OpenSpec.upto fnExactRunFailSpec)

end Rows
end Go.Proofs.Ytnekjmpmjadmhaa
