/-
  No cell of these rows narrows 'for every input' (looked for: loops, veiled, ifaces, maps, wideKeys, modest, calm, conditions, laid).
  DERIVED. THE GIVEN ROWS OF THIS SEAT. 12 by the template 'for every input the law returns true; each argument reads behind the call as it read before'; 0 by the template 'total and deterministic' (their statements: YtfkjcldaclkkaaaTotals.lean).
  GIVEN WITH THE SEED: the statements are not yours to turn. If you find one false, say at which input.
  Laid BY PROGRAM, IN A SANDBOX (cutbox-rows.mjs): the forced cells as the released guide's own fill.sh prints them over the translation 26bc110af67f4b13… (all of the seat's roots in one cut). By AI agents, Wed Nov 11 2026. No macro, syntax, notation, axiom, sorry.
-/
import Derived.Test.YtfkjcldaclkkaaaChecked
import GoSem.Claim
import GoSem.ClaimJoined
import GoSem.ClaimMapViews
import Derived.JoinedTies
import Derived.KernelRfl
namespace Go.Proofs.Ytfkjcldaclkkaaa
/- THE CELL 'sum', in the pinned program and in every row, IS THE sha256 OF THE DUMP (.gsa) THAT YtfkjcldaclkkaaaProg.lean LOADS. Nothing in Lean hashes anything: it is a label: what it is worth is what the hold of that sum in a sandbox is worth. -/
noncomputable def Try.pinned : Pinned := { name := "ytfkjcldaclkkaaa", sum := "26bc110af67f4b1370a758024de95f1c7eabcb6be3d158530f52aa9530920bde", checked := Try.checked }
namespace Rows
def none {H : Type} : Left H := { results := [], args := [] }

/-- 'laws.FnFind': WHATEVER THE INPUT: true; the input reads as it did. -/
def fnFindSpec : ChangeSpec := { name := "fnFind", fn := fun _ => fun
  | [d] => { results := [.lit (.bool true)], args := [d] }
  | _ => none }
def fnFindRow : OpenClaim := { program := "ytfkjcldaclkkaaa", sum := "26bc110af67f4b1370a758024de95f1c7eabcb6be3d158530f52aa9530920bde", func := "loop.example/sagaflows/laws.FnFind", spec := "fnFind", unfollowed := true, recurses := true, apart := false }
def FnFindSaid : Prop := fnFindRow.holds Try.pinned (OpenSpec.ofChange fnFindSpec)

/-- ITS FALSE NEIGHBOUR: 'it returns false'. Refute it at one input. -/
def fnFindWrong : ChangeSpec := { name := "fnFind", fn := fun _ => fun
  | [d] => { results := [.lit (.bool false)], args := [d] }
  | _ => none }
def FnFindWrongFalsely : Prop := fnFindRow.holds Try.pinned (OpenSpec.ofChange fnFindWrong)

/-- 'laws.FnBehindAll': WHATEVER THE INPUT: true; the input reads as it did. -/
def fnBehindAllSpec : ChangeSpec := { name := "fnBehindAll", fn := fun _ => fun
  | [d] => { results := [.lit (.bool true)], args := [d] }
  | _ => none }
def fnBehindAllRow : OpenClaim := { program := "ytfkjcldaclkkaaa", sum := "26bc110af67f4b1370a758024de95f1c7eabcb6be3d158530f52aa9530920bde", func := "loop.example/sagaflows/laws.FnBehindAll", spec := "fnBehindAll", unfollowed := true, recurses := true, apart := false }
def FnBehindAllSaid : Prop := fnBehindAllRow.holds Try.pinned (OpenSpec.ofChange fnBehindAllSpec)

/-- ITS FALSE NEIGHBOUR: 'it returns false'. Refute it at one input. -/
def fnBehindAllWrong : ChangeSpec := { name := "fnBehindAll", fn := fun _ => fun
  | [d] => { results := [.lit (.bool false)], args := [d] }
  | _ => none }
def FnBehindAllWrongFalsely : Prop := fnBehindAllRow.holds Try.pinned (OpenSpec.ofChange fnBehindAllWrong)

/-- 'laws.FnFlowCircle': WHATEVER THE INPUT: true; the input reads as it did. -/
def fnFlowCircleSpec : ChangeSpec := { name := "fnFlowCircle", fn := fun _ => fun
  | [d] => { results := [.lit (.bool true)], args := [d] }
  | _ => none }
def fnFlowCircleRow : OpenClaim := { program := "ytfkjcldaclkkaaa", sum := "26bc110af67f4b1370a758024de95f1c7eabcb6be3d158530f52aa9530920bde", func := "loop.example/sagaflows/laws.FnFlowCircle", spec := "fnFlowCircle", unfollowed := true, recurses := true, apart := false }
def FnFlowCircleSaid : Prop := fnFlowCircleRow.holds Try.pinned (OpenSpec.ofChange fnFlowCircleSpec)

/-- ITS FALSE NEIGHBOUR: 'it returns false'. Refute it at one input. -/
def fnFlowCircleWrong : ChangeSpec := { name := "fnFlowCircle", fn := fun _ => fun
  | [d] => { results := [.lit (.bool false)], args := [d] }
  | _ => none }
def FnFlowCircleWrongFalsely : Prop := fnFlowCircleRow.holds Try.pinned (OpenSpec.ofChange fnFlowCircleWrong)

/-- 'laws.FnBehindOrder': WHATEVER THE INPUT: true; the input reads as it did. -/
def fnBehindOrderSpec : ChangeSpec := { name := "fnBehindOrder", fn := fun _ => fun
  | [d] => { results := [.lit (.bool true)], args := [d] }
  | _ => none }
def fnBehindOrderRow : OpenClaim := { program := "ytfkjcldaclkkaaa", sum := "26bc110af67f4b1370a758024de95f1c7eabcb6be3d158530f52aa9530920bde", func := "loop.example/sagaflows/laws.FnBehindOrder", spec := "fnBehindOrder", unfollowed := true, recurses := true, apart := false }
def FnBehindOrderSaid : Prop := fnBehindOrderRow.holds Try.pinned (OpenSpec.ofChange fnBehindOrderSpec)

/-- ITS FALSE NEIGHBOUR: 'it returns false'. Refute it at one input. -/
def fnBehindOrderWrong : ChangeSpec := { name := "fnBehindOrder", fn := fun _ => fun
  | [d] => { results := [.lit (.bool false)], args := [d] }
  | _ => none }
def FnBehindOrderWrongFalsely : Prop := fnBehindOrderRow.holds Try.pinned (OpenSpec.ofChange fnBehindOrderWrong)

/-- 'laws.FnBehind': WHATEVER THE INPUT: true; the input reads as it did. -/
def fnBehindSpec : ChangeSpec := { name := "fnBehind", fn := fun _ => fun
  | [d] => { results := [.lit (.bool true)], args := [d] }
  | _ => none }
def fnBehindRow : OpenClaim := { program := "ytfkjcldaclkkaaa", sum := "26bc110af67f4b1370a758024de95f1c7eabcb6be3d158530f52aa9530920bde", func := "loop.example/sagaflows/laws.FnBehind", spec := "fnBehind", unfollowed := true, recurses := true, apart := false }
def FnBehindSaid : Prop := fnBehindRow.holds Try.pinned (OpenSpec.ofChange fnBehindSpec)

/-- ITS FALSE NEIGHBOUR: 'it returns false'. Refute it at one input. -/
def fnBehindWrong : ChangeSpec := { name := "fnBehind", fn := fun _ => fun
  | [d] => { results := [.lit (.bool false)], args := [d] }
  | _ => none }
def FnBehindWrongFalsely : Prop := fnBehindRow.holds Try.pinned (OpenSpec.ofChange fnBehindWrong)

/-- 'laws.FnExactFlowFind': WHATEVER THE INPUT: true; the input reads as it did. -/
def fnExactFlowFindSpec : ChangeSpec := { name := "fnExactFlowFind", fn := fun _ => fun
  | [d1, d2] => { results := [.lit (.bool true)], args := [d1, d2] }
  | _ => none }
def fnExactFlowFindRow : OpenClaim := { program := "ytfkjcldaclkkaaa", sum := "26bc110af67f4b1370a758024de95f1c7eabcb6be3d158530f52aa9530920bde", func := "loop.example/sagaflows/laws.FnExactFlowFind", spec := "fnExactFlowFind", unfollowed := true, recurses := true, apart := false }
def FnExactFlowFindSaid : Prop := fnExactFlowFindRow.holds Try.pinned (OpenSpec.ofChange fnExactFlowFindSpec)

/-- ITS FALSE NEIGHBOUR: 'it returns false'. Refute it at one input. -/
def fnExactFlowFindWrong : ChangeSpec := { name := "fnExactFlowFind", fn := fun _ => fun
  | [d1, d2] => { results := [.lit (.bool false)], args := [d1, d2] }
  | _ => none }
def FnExactFlowFindWrongFalsely : Prop := fnExactFlowFindRow.holds Try.pinned (OpenSpec.ofChange fnExactFlowFindWrong)

/-- 'laws.FnExactFlowBehind': WHATEVER THE INPUT: true; the input reads as it did. -/
def fnExactFlowBehindSpec : ChangeSpec := { name := "fnExactFlowBehind", fn := fun _ => fun
  | [d1, d2] => { results := [.lit (.bool true)], args := [d1, d2] }
  | _ => none }
def fnExactFlowBehindRow : OpenClaim := { program := "ytfkjcldaclkkaaa", sum := "26bc110af67f4b1370a758024de95f1c7eabcb6be3d158530f52aa9530920bde", func := "loop.example/sagaflows/laws.FnExactFlowBehind", spec := "fnExactFlowBehind", unfollowed := true, recurses := true, apart := false }
def FnExactFlowBehindSaid : Prop := fnExactFlowBehindRow.holds Try.pinned (OpenSpec.ofChange fnExactFlowBehindSpec)

/-- ITS FALSE NEIGHBOUR: 'it returns false'. Refute it at one input. -/
def fnExactFlowBehindWrong : ChangeSpec := { name := "fnExactFlowBehind", fn := fun _ => fun
  | [d1, d2] => { results := [.lit (.bool false)], args := [d1, d2] }
  | _ => none }
def FnExactFlowBehindWrongFalsely : Prop := fnExactFlowBehindRow.holds Try.pinned (OpenSpec.ofChange fnExactFlowBehindWrong)

/-- 'laws.FnRunPart': WHATEVER THE INPUT: true; the input reads as it did. -/
def fnRunPartSpec : ChangeSpec := { name := "fnRunPart", fn := fun _ => fun
  | [d] => { results := [.lit (.bool true)], args := [d] }
  | _ => none }
def fnRunPartRow : OpenClaim := { program := "ytfkjcldaclkkaaa", sum := "26bc110af67f4b1370a758024de95f1c7eabcb6be3d158530f52aa9530920bde", func := "loop.example/sagaflows/laws.FnRunPart", spec := "fnRunPart", unfollowed := true, recurses := true, apart := false }
def FnRunPartSaid : Prop := fnRunPartRow.holds Try.pinned (OpenSpec.ofChange fnRunPartSpec)

/-- ITS FALSE NEIGHBOUR: 'it returns false'. Refute it at one input. -/
def fnRunPartWrong : ChangeSpec := { name := "fnRunPart", fn := fun _ => fun
  | [d] => { results := [.lit (.bool false)], args := [d] }
  | _ => none }
def FnRunPartWrongFalsely : Prop := fnRunPartRow.holds Try.pinned (OpenSpec.ofChange fnRunPartWrong)

/-- 'laws.FnExactRunValid': WHATEVER THE INPUT: true; the input reads as it did. -/
def fnExactRunValidSpec : ChangeSpec := { name := "fnExactRunValid", fn := fun _ => fun
  | [d1, d2] => { results := [.lit (.bool true)], args := [d1, d2] }
  | _ => none }
def fnExactRunValidRow : OpenClaim := { program := "ytfkjcldaclkkaaa", sum := "26bc110af67f4b1370a758024de95f1c7eabcb6be3d158530f52aa9530920bde", func := "loop.example/sagaflows/laws.FnExactRunValid", spec := "fnExactRunValid", unfollowed := true, recurses := true, apart := false }
def FnExactRunValidSaid : Prop := fnExactRunValidRow.holds Try.pinned (OpenSpec.ofChange fnExactRunValidSpec)

/-- ITS FALSE NEIGHBOUR: 'it returns false'. Refute it at one input. -/
def fnExactRunValidWrong : ChangeSpec := { name := "fnExactRunValid", fn := fun _ => fun
  | [d1, d2] => { results := [.lit (.bool false)], args := [d1, d2] }
  | _ => none }
def FnExactRunValidWrongFalsely : Prop := fnExactRunValidRow.holds Try.pinned (OpenSpec.ofChange fnExactRunValidWrong)

/-- 'laws.FnNextNone': WHATEVER THE INPUT: true; the input reads as it did. -/
def fnNextNoneSpec : ChangeSpec := { name := "fnNextNone", fn := fun _ => fun
  | [d] => { results := [.lit (.bool true)], args := [d] }
  | _ => none }
def fnNextNoneRow : OpenClaim := { program := "ytfkjcldaclkkaaa", sum := "26bc110af67f4b1370a758024de95f1c7eabcb6be3d158530f52aa9530920bde", func := "loop.example/sagaflows/laws.FnNextNone", spec := "fnNextNone", unfollowed := true, recurses := true, apart := false }
def FnNextNoneSaid : Prop := fnNextNoneRow.holds Try.pinned (OpenSpec.ofChange fnNextNoneSpec)

/-- ITS FALSE NEIGHBOUR: 'it returns false'. Refute it at one input. -/
def fnNextNoneWrong : ChangeSpec := { name := "fnNextNone", fn := fun _ => fun
  | [d] => { results := [.lit (.bool false)], args := [d] }
  | _ => none }
def FnNextNoneWrongFalsely : Prop := fnNextNoneRow.holds Try.pinned (OpenSpec.ofChange fnNextNoneWrong)

/-- 'laws.FnExactRunNext': WHATEVER THE INPUT: true; the input reads as it did. -/
def fnExactRunNextSpec : ChangeSpec := { name := "fnExactRunNext", fn := fun _ => fun
  | [d1, d2] => { results := [.lit (.bool true)], args := [d1, d2] }
  | _ => none }
def fnExactRunNextRow : OpenClaim := { program := "ytfkjcldaclkkaaa", sum := "26bc110af67f4b1370a758024de95f1c7eabcb6be3d158530f52aa9530920bde", func := "loop.example/sagaflows/laws.FnExactRunNext", spec := "fnExactRunNext", unfollowed := true, recurses := true, apart := false }
def FnExactRunNextSaid : Prop := fnExactRunNextRow.holds Try.pinned (OpenSpec.ofChange fnExactRunNextSpec)

/-- ITS FALSE NEIGHBOUR: 'it returns false'. Refute it at one input. -/
def fnExactRunNextWrong : ChangeSpec := { name := "fnExactRunNext", fn := fun _ => fun
  | [d1, d2] => { results := [.lit (.bool false)], args := [d1, d2] }
  | _ => none }
def FnExactRunNextWrongFalsely : Prop := fnExactRunNextRow.holds Try.pinned (OpenSpec.ofChange fnExactRunNextWrong)

/-- 'laws.FnFailAny': WHATEVER THE INPUT: true; the input reads as it did. -/
def fnFailAnySpec : ChangeSpec := { name := "fnFailAny", fn := fun _ => fun
  | [d] => { results := [.lit (.bool true)], args := [d] }
  | _ => none }
def fnFailAnyRow : OpenClaim := { program := "ytfkjcldaclkkaaa", sum := "26bc110af67f4b1370a758024de95f1c7eabcb6be3d158530f52aa9530920bde", func := "loop.example/sagaflows/laws.FnFailAny", spec := "fnFailAny", unfollowed := true, recurses := true, apart := false }
def FnFailAnySaid : Prop := fnFailAnyRow.holds Try.pinned (OpenSpec.ofChange fnFailAnySpec)

/-- ITS FALSE NEIGHBOUR: 'it returns false'. Refute it at one input. -/
def fnFailAnyWrong : ChangeSpec := { name := "fnFailAny", fn := fun _ => fun
  | [d] => { results := [.lit (.bool false)], args := [d] }
  | _ => none }
def FnFailAnyWrongFalsely : Prop := fnFailAnyRow.holds Try.pinned (OpenSpec.ofChange fnFailAnyWrong)

/- THE SECOND FORM. 'bulk': how many values and letters a reading holds, each counted each time it is reached (what is shared counts as often as it is met; a slice's spare places count too). A statement '..UptoSaid' is the law's where the arguments, and the package variables that the reading takes, are together of bulk at most 1048576: NARROWER than '..Said'. Prove '..Said' where nothing that the law and all that it calls make is longer than what came in: it says more and counts as full. Else prove '..UptoSaid'. A law counts once. -/
mutual
def uptoBulk {H : Type} : DataW H → Nat
  | .lit (.string bytes) => bytes.length + 1
  | .lit _ => 1
  | .nil => 1
  | .ptr d => uptoBulk d + 1
  | .slice elems spare => uptoBulkAll elems + uptoBulkAll spare + 1
  | .agg parts => uptoBulkAll parts + 1
  | .iface _ d => uptoBulk d + 1
  | .map entries => uptoBulkEntries entries + 1
  | .held _ => 1
def uptoBulkAll {H : Type} : List (DataW H) → Nat
  | [] => 0
  | d :: r => uptoBulk d + uptoBulkAll r
def uptoBulkEntries {H : Type} : List (Lit × DataW H) → Nat
  | [] => 0
  | x :: r => uptoBulkEntry x + uptoBulkEntries r
def uptoBulkEntry {H : Type} : Lit × DataW H → Nat
  | (.string bytes, d) => bytes.length + uptoBulk d + 1
  | (_, d) => uptoBulk d + 1
 end
def uptoSmall : (H : Type) → List (DataW H) → Bool := fun _ ds => decide (uptoBulkAll ds ≤ 1048576)
def OpenSpec.upto (s : _root_.Go.ChangeSpec) : _root_.Go.OpenSpec := { _root_.Go.OpenSpec.ofChange s with cond := some uptoSmall }

/-- 'laws.FnFind', WHERE WHAT IT READS IS OF BULK AT MOST 1048576: true; the input reads as it did. -/
def fnFindUptoRow : OpenClaim := { program := "ytfkjcldaclkkaaa", sum := "26bc110af67f4b1370a758024de95f1c7eabcb6be3d158530f52aa9530920bde", func := "loop.example/sagaflows/laws.FnFind", spec := "fnFind", unfollowed := true, recurses := true, apart := false, narrowed := true }
def FnFindUptoSaid : Prop := fnFindUptoRow.holds Try.pinned (OpenSpec.upto fnFindSpec)

/-- 'laws.FnBehindAll', WHERE WHAT IT READS IS OF BULK AT MOST 1048576: true; the input reads as it did. -/
def fnBehindAllUptoRow : OpenClaim := { program := "ytfkjcldaclkkaaa", sum := "26bc110af67f4b1370a758024de95f1c7eabcb6be3d158530f52aa9530920bde", func := "loop.example/sagaflows/laws.FnBehindAll", spec := "fnBehindAll", unfollowed := true, recurses := true, apart := false, narrowed := true }
def FnBehindAllUptoSaid : Prop := fnBehindAllUptoRow.holds Try.pinned (OpenSpec.upto fnBehindAllSpec)

/-- 'laws.FnFlowCircle', WHERE WHAT IT READS IS OF BULK AT MOST 1048576: true; the input reads as it did. -/
def fnFlowCircleUptoRow : OpenClaim := { program := "ytfkjcldaclkkaaa", sum := "26bc110af67f4b1370a758024de95f1c7eabcb6be3d158530f52aa9530920bde", func := "loop.example/sagaflows/laws.FnFlowCircle", spec := "fnFlowCircle", unfollowed := true, recurses := true, apart := false, narrowed := true }
def FnFlowCircleUptoSaid : Prop := fnFlowCircleUptoRow.holds Try.pinned (OpenSpec.upto fnFlowCircleSpec)

/-- 'laws.FnBehindOrder', WHERE WHAT IT READS IS OF BULK AT MOST 1048576: true; the input reads as it did. -/
def fnBehindOrderUptoRow : OpenClaim := { program := "ytfkjcldaclkkaaa", sum := "26bc110af67f4b1370a758024de95f1c7eabcb6be3d158530f52aa9530920bde", func := "loop.example/sagaflows/laws.FnBehindOrder", spec := "fnBehindOrder", unfollowed := true, recurses := true, apart := false, narrowed := true }
def FnBehindOrderUptoSaid : Prop := fnBehindOrderUptoRow.holds Try.pinned (OpenSpec.upto fnBehindOrderSpec)

/-- 'laws.FnBehind', WHERE WHAT IT READS IS OF BULK AT MOST 1048576: true; the input reads as it did. -/
def fnBehindUptoRow : OpenClaim := { program := "ytfkjcldaclkkaaa", sum := "26bc110af67f4b1370a758024de95f1c7eabcb6be3d158530f52aa9530920bde", func := "loop.example/sagaflows/laws.FnBehind", spec := "fnBehind", unfollowed := true, recurses := true, apart := false, narrowed := true }
def FnBehindUptoSaid : Prop := fnBehindUptoRow.holds Try.pinned (OpenSpec.upto fnBehindSpec)

/-- 'laws.FnExactFlowFind', WHERE WHAT IT READS IS OF BULK AT MOST 1048576: true; the input reads as it did. -/
def fnExactFlowFindUptoRow : OpenClaim := { program := "ytfkjcldaclkkaaa", sum := "26bc110af67f4b1370a758024de95f1c7eabcb6be3d158530f52aa9530920bde", func := "loop.example/sagaflows/laws.FnExactFlowFind", spec := "fnExactFlowFind", unfollowed := true, recurses := true, apart := false, narrowed := true }
def FnExactFlowFindUptoSaid : Prop := fnExactFlowFindUptoRow.holds Try.pinned (OpenSpec.upto fnExactFlowFindSpec)

/-- 'laws.FnExactFlowBehind', WHERE WHAT IT READS IS OF BULK AT MOST 1048576: true; the input reads as it did. -/
def fnExactFlowBehindUptoRow : OpenClaim := { program := "ytfkjcldaclkkaaa", sum := "26bc110af67f4b1370a758024de95f1c7eabcb6be3d158530f52aa9530920bde", func := "loop.example/sagaflows/laws.FnExactFlowBehind", spec := "fnExactFlowBehind", unfollowed := true, recurses := true, apart := false, narrowed := true }
def FnExactFlowBehindUptoSaid : Prop := fnExactFlowBehindUptoRow.holds Try.pinned (OpenSpec.upto fnExactFlowBehindSpec)

/-- 'laws.FnRunPart', WHERE WHAT IT READS IS OF BULK AT MOST 1048576: true; the input reads as it did. -/
def fnRunPartUptoRow : OpenClaim := { program := "ytfkjcldaclkkaaa", sum := "26bc110af67f4b1370a758024de95f1c7eabcb6be3d158530f52aa9530920bde", func := "loop.example/sagaflows/laws.FnRunPart", spec := "fnRunPart", unfollowed := true, recurses := true, apart := false, narrowed := true }
def FnRunPartUptoSaid : Prop := fnRunPartUptoRow.holds Try.pinned (OpenSpec.upto fnRunPartSpec)

/-- 'laws.FnExactRunValid', WHERE WHAT IT READS IS OF BULK AT MOST 1048576: true; the input reads as it did. -/
def fnExactRunValidUptoRow : OpenClaim := { program := "ytfkjcldaclkkaaa", sum := "26bc110af67f4b1370a758024de95f1c7eabcb6be3d158530f52aa9530920bde", func := "loop.example/sagaflows/laws.FnExactRunValid", spec := "fnExactRunValid", unfollowed := true, recurses := true, apart := false, narrowed := true }
def FnExactRunValidUptoSaid : Prop := fnExactRunValidUptoRow.holds Try.pinned (OpenSpec.upto fnExactRunValidSpec)

/-- 'laws.FnNextNone', WHERE WHAT IT READS IS OF BULK AT MOST 1048576: true; the input reads as it did. -/
def fnNextNoneUptoRow : OpenClaim := { program := "ytfkjcldaclkkaaa", sum := "26bc110af67f4b1370a758024de95f1c7eabcb6be3d158530f52aa9530920bde", func := "loop.example/sagaflows/laws.FnNextNone", spec := "fnNextNone", unfollowed := true, recurses := true, apart := false, narrowed := true }
def FnNextNoneUptoSaid : Prop := fnNextNoneUptoRow.holds Try.pinned (OpenSpec.upto fnNextNoneSpec)

/-- 'laws.FnExactRunNext', WHERE WHAT IT READS IS OF BULK AT MOST 1048576: true; the input reads as it did. -/
def fnExactRunNextUptoRow : OpenClaim := { program := "ytfkjcldaclkkaaa", sum := "26bc110af67f4b1370a758024de95f1c7eabcb6be3d158530f52aa9530920bde", func := "loop.example/sagaflows/laws.FnExactRunNext", spec := "fnExactRunNext", unfollowed := true, recurses := true, apart := false, narrowed := true }
def FnExactRunNextUptoSaid : Prop := fnExactRunNextUptoRow.holds Try.pinned (OpenSpec.upto fnExactRunNextSpec)

/-- 'laws.FnFailAny', WHERE WHAT IT READS IS OF BULK AT MOST 1048576: true; the input reads as it did. -/
def fnFailAnyUptoRow : OpenClaim := { program := "ytfkjcldaclkkaaa", sum := "26bc110af67f4b1370a758024de95f1c7eabcb6be3d158530f52aa9530920bde", func := "loop.example/sagaflows/laws.FnFailAny", spec := "fnFailAny", unfollowed := true, recurses := true, apart := false, narrowed := true }
def FnFailAnyUptoSaid : Prop := fnFailAnyUptoRow.holds Try.pinned (OpenSpec.upto fnFailAnySpec)

end Rows
end Go.Proofs.Ytfkjcldaclkkaaa
