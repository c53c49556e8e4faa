/-
  No cell of these rows narrows 'for every input' (looked for: loops, veiled, ifaces, maps, wideKeys, modest, calm, conditions, laid).
  DERIVED. THE GIVEN ROWS OF THIS SEAT. 10 by the template 'for every input the law returns true; each argument reads behind the call as it read before'; 0 by the template 'total and deterministic' (their statements: YtaelacpkagcffaaTotals.lean).
  GIVEN WITH THE SEED: the statements are not yours to turn. If you find one false, say at which input.
  Laid BY PROGRAM, IN A SANDBOX (cutbox-rows.mjs): the forced cells as the released guide's own fill.sh prints them over the translation ab1befec2fc4abb1… (all of the seat's roots in one cut). By AI agents, Wed Nov 11 2026. No macro, syntax, notation, axiom, sorry.
-/
import Derived.Test.YtaelacpkagcffaaChecked
import GoSem.Claim
import GoSem.ClaimJoined
import GoSem.ClaimMapViews
import Derived.JoinedTies
import Derived.KernelRfl
namespace Go.Proofs.Ytaelacpkagcffaa
/- THE CELL 'sum', in the pinned program and in every row, IS THE sha256 OF THE DUMP (.gsa) THAT YtaelacpkagcffaaProg.lean LOADS. Nothing in Lean hashes anything: it is a label: what it is worth is what the hold of that sum in a sandbox is worth. -/
noncomputable def Try.pinned : Pinned := { name := "ytaelacpkagcffaa", sum := "ab1befec2fc4abb132d2c50a8c141db6eeca7f50ab11c82298c38e407b46e322", checked := Try.checked }
namespace Rows
def none {H : Type} : Left H := { results := [], args := [] }

/-- 'laws.FnExactEventRun': WHATEVER THE INPUT: true; the input reads as it did. -/
def fnExactEventRunSpec : ChangeSpec := { name := "fnExactEventRun", fn := fun _ => fun
  | [d1, d2, d3] => { results := [.lit (.bool true)], args := [d1, d2, d3] }
  | _ => none }
def fnExactEventRunRow : OpenClaim := { program := "ytaelacpkagcffaa", sum := "ab1befec2fc4abb132d2c50a8c141db6eeca7f50ab11c82298c38e407b46e322", func := "loop.example/sagaflows/laws.FnExactEventRun", spec := "fnExactEventRun", unfollowed := true, recurses := true, apart := false }
def FnExactEventRunSaid : Prop := fnExactEventRunRow.holds Try.pinned (OpenSpec.ofChange fnExactEventRunSpec)

/-- ITS FALSE NEIGHBOUR: 'it returns false'. Refute it at one input. -/
def fnExactEventRunWrong : ChangeSpec := { name := "fnExactEventRun", fn := fun _ => fun
  | [d1, d2, d3] => { results := [.lit (.bool false)], args := [d1, d2, d3] }
  | _ => none }
def FnExactEventRunWrongFalsely : Prop := fnExactEventRunRow.holds Try.pinned (OpenSpec.ofChange fnExactEventRunWrong)

/-- 'laws.FnExactEventsRun': WHATEVER THE INPUT: true; the input reads as it did. -/
def fnExactEventsRunSpec : ChangeSpec := { name := "fnExactEventsRun", fn := fun _ => fun
  | [d1, d2] => { results := [.lit (.bool true)], args := [d1, d2] }
  | _ => none }
def fnExactEventsRunRow : OpenClaim := { program := "ytaelacpkagcffaa", sum := "ab1befec2fc4abb132d2c50a8c141db6eeca7f50ab11c82298c38e407b46e322", func := "loop.example/sagaflows/laws.FnExactEventsRun", spec := "fnExactEventsRun", unfollowed := true, recurses := true, apart := false }
def FnExactEventsRunSaid : Prop := fnExactEventsRunRow.holds Try.pinned (OpenSpec.ofChange fnExactEventsRunSpec)

/-- ITS FALSE NEIGHBOUR: 'it returns false'. Refute it at one input. -/
def fnExactEventsRunWrong : ChangeSpec := { name := "fnExactEventsRun", fn := fun _ => fun
  | [d1, d2] => { results := [.lit (.bool false)], args := [d1, d2] }
  | _ => none }
def FnExactEventsRunWrongFalsely : Prop := fnExactEventsRunRow.holds Try.pinned (OpenSpec.ofChange fnExactEventsRunWrong)

/-- 'laws.FnEventsOfMany': WHATEVER THE INPUT: true; the input reads as it did. -/
def fnEventsOfManySpec : ChangeSpec := { name := "fnEventsOfMany", fn := fun _ => fun
  | [d] => { results := [.lit (.bool true)], args := [d] }
  | _ => none }
def fnEventsOfManyRow : OpenClaim := { program := "ytaelacpkagcffaa", sum := "ab1befec2fc4abb132d2c50a8c141db6eeca7f50ab11c82298c38e407b46e322", func := "loop.example/sagaflows/laws.FnEventsOfMany", spec := "fnEventsOfMany", unfollowed := true, recurses := true, apart := false }
def FnEventsOfManySaid : Prop := fnEventsOfManyRow.holds Try.pinned (OpenSpec.ofChange fnEventsOfManySpec)

/-- ITS FALSE NEIGHBOUR: 'it returns false'. Refute it at one input. -/
def fnEventsOfManyWrong : ChangeSpec := { name := "fnEventsOfMany", fn := fun _ => fun
  | [d] => { results := [.lit (.bool false)], args := [d] }
  | _ => none }
def FnEventsOfManyWrongFalsely : Prop := fnEventsOfManyRow.holds Try.pinned (OpenSpec.ofChange fnEventsOfManyWrong)

/-- 'laws.FnEventsOf': WHATEVER THE INPUT: true; the input reads as it did. -/
def fnEventsOfSpec : ChangeSpec := { name := "fnEventsOf", fn := fun _ => fun
  | [d] => { results := [.lit (.bool true)], args := [d] }
  | _ => none }
def fnEventsOfRow : OpenClaim := { program := "ytaelacpkagcffaa", sum := "ab1befec2fc4abb132d2c50a8c141db6eeca7f50ab11c82298c38e407b46e322", func := "loop.example/sagaflows/laws.FnEventsOf", spec := "fnEventsOf", unfollowed := true, recurses := true, apart := false }
def FnEventsOfSaid : Prop := fnEventsOfRow.holds Try.pinned (OpenSpec.ofChange fnEventsOfSpec)

/-- ITS FALSE NEIGHBOUR: 'it returns false'. Refute it at one input. -/
def fnEventsOfWrong : ChangeSpec := { name := "fnEventsOf", fn := fun _ => fun
  | [d] => { results := [.lit (.bool false)], args := [d] }
  | _ => none }
def FnEventsOfWrongFalsely : Prop := fnEventsOfRow.holds Try.pinned (OpenSpec.ofChange fnEventsOfWrong)

/-- 'laws.FnEvent': WHATEVER THE INPUT: true; the input reads as it did. -/
def fnEventSpec : ChangeSpec := { name := "fnEvent", fn := fun _ => fun
  | [d] => { results := [.lit (.bool true)], args := [d] }
  | _ => none }
def fnEventRow : OpenClaim := { program := "ytaelacpkagcffaa", sum := "ab1befec2fc4abb132d2c50a8c141db6eeca7f50ab11c82298c38e407b46e322", func := "loop.example/sagaflows/laws.FnEvent", spec := "fnEvent", unfollowed := true, recurses := true, apart := false }
def FnEventSaid : Prop := fnEventRow.holds Try.pinned (OpenSpec.ofChange fnEventSpec)

/-- ITS FALSE NEIGHBOUR: 'it returns false'. Refute it at one input. -/
def fnEventWrong : ChangeSpec := { name := "fnEvent", fn := fun _ => fun
  | [d] => { results := [.lit (.bool false)], args := [d] }
  | _ => none }
def FnEventWrongFalsely : Prop := fnEventRow.holds Try.pinned (OpenSpec.ofChange fnEventWrong)

/-- 'laws.FnEventSame': WHATEVER THE INPUT: true; the input reads as it did. -/
def fnEventSameSpec : ChangeSpec := { name := "fnEventSame", fn := fun _ => fun
  | [d] => { results := [.lit (.bool true)], args := [d] }
  | _ => none }
def fnEventSameRow : OpenClaim := { program := "ytaelacpkagcffaa", sum := "ab1befec2fc4abb132d2c50a8c141db6eeca7f50ab11c82298c38e407b46e322", func := "loop.example/sagaflows/laws.FnEventSame", spec := "fnEventSame", unfollowed := true, recurses := true, apart := false }
def FnEventSameSaid : Prop := fnEventSameRow.holds Try.pinned (OpenSpec.ofChange fnEventSameSpec)

/-- ITS FALSE NEIGHBOUR: 'it returns false'. Refute it at one input. -/
def fnEventSameWrong : ChangeSpec := { name := "fnEventSame", fn := fun _ => fun
  | [d] => { results := [.lit (.bool false)], args := [d] }
  | _ => none }
def FnEventSameWrongFalsely : Prop := fnEventSameRow.holds Try.pinned (OpenSpec.ofChange fnEventSameWrong)

/-- 'laws.FnExactEventsOf': WHATEVER THE INPUT: true; the input reads as it did. -/
def fnExactEventsOfSpec : ChangeSpec := { name := "fnExactEventsOf", fn := fun _ => fun
  | [d1, d2] => { results := [.lit (.bool true)], args := [d1, d2] }
  | _ => none }
def fnExactEventsOfRow : OpenClaim := { program := "ytaelacpkagcffaa", sum := "ab1befec2fc4abb132d2c50a8c141db6eeca7f50ab11c82298c38e407b46e322", func := "loop.example/sagaflows/laws.FnExactEventsOf", spec := "fnExactEventsOf", unfollowed := true, recurses := true, apart := false }
def FnExactEventsOfSaid : Prop := fnExactEventsOfRow.holds Try.pinned (OpenSpec.ofChange fnExactEventsOfSpec)

/-- ITS FALSE NEIGHBOUR: 'it returns false'. Refute it at one input. -/
def fnExactEventsOfWrong : ChangeSpec := { name := "fnExactEventsOf", fn := fun _ => fun
  | [d1, d2] => { results := [.lit (.bool false)], args := [d1, d2] }
  | _ => none }
def FnExactEventsOfWrongFalsely : Prop := fnExactEventsOfRow.holds Try.pinned (OpenSpec.ofChange fnExactEventsOfWrong)

/-- 'laws.FnEventNext': WHATEVER THE INPUT: true; the input reads as it did. -/
def fnEventNextSpec : ChangeSpec := { name := "fnEventNext", fn := fun _ => fun
  | [d] => { results := [.lit (.bool true)], args := [d] }
  | _ => none }
def fnEventNextRow : OpenClaim := { program := "ytaelacpkagcffaa", sum := "ab1befec2fc4abb132d2c50a8c141db6eeca7f50ab11c82298c38e407b46e322", func := "loop.example/sagaflows/laws.FnEventNext", spec := "fnEventNext", unfollowed := true, recurses := true, apart := false }
def FnEventNextSaid : Prop := fnEventNextRow.holds Try.pinned (OpenSpec.ofChange fnEventNextSpec)

/-- ITS FALSE NEIGHBOUR: 'it returns false'. Refute it at one input. -/
def fnEventNextWrong : ChangeSpec := { name := "fnEventNext", fn := fun _ => fun
  | [d] => { results := [.lit (.bool false)], args := [d] }
  | _ => none }
def FnEventNextWrongFalsely : Prop := fnEventNextRow.holds Try.pinned (OpenSpec.ofChange fnEventNextWrong)

/-- 'laws.FnEventsPart': WHATEVER THE INPUT: true; the input reads as it did. -/
def fnEventsPartSpec : ChangeSpec := { name := "fnEventsPart", fn := fun _ => fun
  | [d] => { results := [.lit (.bool true)], args := [d] }
  | _ => none }
def fnEventsPartRow : OpenClaim := { program := "ytaelacpkagcffaa", sum := "ab1befec2fc4abb132d2c50a8c141db6eeca7f50ab11c82298c38e407b46e322", func := "loop.example/sagaflows/laws.FnEventsPart", spec := "fnEventsPart", unfollowed := true, recurses := true, apart := false }
def FnEventsPartSaid : Prop := fnEventsPartRow.holds Try.pinned (OpenSpec.ofChange fnEventsPartSpec)

/-- ITS FALSE NEIGHBOUR: 'it returns false'. Refute it at one input. -/
def fnEventsPartWrong : ChangeSpec := { name := "fnEventsPart", fn := fun _ => fun
  | [d] => { results := [.lit (.bool false)], args := [d] }
  | _ => none }
def FnEventsPartWrongFalsely : Prop := fnEventsPartRow.holds Try.pinned (OpenSpec.ofChange fnEventsPartWrong)

/-- 'laws.FnEventsRun': WHATEVER THE INPUT: true; the input reads as it did. -/
def fnEventsRunSpec : ChangeSpec := { name := "fnEventsRun", fn := fun _ => fun
  | [d] => { results := [.lit (.bool true)], args := [d] }
  | _ => none }
def fnEventsRunRow : OpenClaim := { program := "ytaelacpkagcffaa", sum := "ab1befec2fc4abb132d2c50a8c141db6eeca7f50ab11c82298c38e407b46e322", func := "loop.example/sagaflows/laws.FnEventsRun", spec := "fnEventsRun", unfollowed := true, recurses := true, apart := false }
def FnEventsRunSaid : Prop := fnEventsRunRow.holds Try.pinned (OpenSpec.ofChange fnEventsRunSpec)

/-- ITS FALSE NEIGHBOUR: 'it returns false'. Refute it at one input. -/
def fnEventsRunWrong : ChangeSpec := { name := "fnEventsRun", fn := fun _ => fun
  | [d] => { results := [.lit (.bool false)], args := [d] }
  | _ => none }
def FnEventsRunWrongFalsely : Prop := fnEventsRunRow.holds Try.pinned (OpenSpec.ofChange fnEventsRunWrong)

/- THE SECOND FORM. 'bulk': how many values and letters a reading holds, each counted each time it is reached (what is shared counts as often as it is met; a slice's spare places count too). A statement '..UptoSaid' is the law's where the arguments, and the package variables that the reading takes, are together of bulk at most 1048576: NARROWER than '..Said'. Prove '..Said' where nothing that the law and all that it calls make is longer than what came in: it says more and counts as full. Else prove '..UptoSaid'. A law counts once. -/
mutual
def uptoBulk {H : Type} : DataW H → Nat
  | .lit (.string bytes) => bytes.length + 1
  | .lit _ => 1
  | .nil => 1
  | .ptr d => uptoBulk d + 1
  | .slice elems spare => uptoBulkAll elems + uptoBulkAll spare + 1
  | .agg parts => uptoBulkAll parts + 1
  | .iface _ d => uptoBulk d + 1
  | .map entries => uptoBulkEntries entries + 1
  | .held _ => 1
def uptoBulkAll {H : Type} : List (DataW H) → Nat
  | [] => 0
  | d :: r => uptoBulk d + uptoBulkAll r
def uptoBulkEntries {H : Type} : List (Lit × DataW H) → Nat
  | [] => 0
  | x :: r => uptoBulkEntry x + uptoBulkEntries r
def uptoBulkEntry {H : Type} : Lit × DataW H → Nat
  | (.string bytes, d) => bytes.length + uptoBulk d + 1
  | (_, d) => uptoBulk d + 1
 end
def uptoSmall : (H : Type) → List (DataW H) → Bool := fun _ ds => decide (uptoBulkAll ds ≤ 1048576)
def OpenSpec.upto (s : _root_.Go.ChangeSpec) : _root_.Go.OpenSpec := { _root_.Go.OpenSpec.ofChange s with cond := some uptoSmall }

/-- 'laws.FnExactEventRun', WHERE WHAT IT READS IS OF BULK AT MOST 1048576: true; the input reads as it did. -/
def fnExactEventRunUptoRow : OpenClaim := { program := "ytaelacpkagcffaa", sum := "ab1befec2fc4abb132d2c50a8c141db6eeca7f50ab11c82298c38e407b46e322", func := "loop.example/sagaflows/laws.FnExactEventRun", spec := "fnExactEventRun", unfollowed := true, recurses := true, apart := false, narrowed := true }
def FnExactEventRunUptoSaid : Prop := fnExactEventRunUptoRow.holds Try.pinned (OpenSpec.upto fnExactEventRunSpec)

/-- 'laws.FnExactEventsRun', WHERE WHAT IT READS IS OF BULK AT MOST 1048576: true; the input reads as it did. -/
def fnExactEventsRunUptoRow : OpenClaim := { program := "ytaelacpkagcffaa", sum := "ab1befec2fc4abb132d2c50a8c141db6eeca7f50ab11c82298c38e407b46e322", func := "loop.example/sagaflows/laws.FnExactEventsRun", spec := "fnExactEventsRun", unfollowed := true, recurses := true, apart := false, narrowed := true }
def FnExactEventsRunUptoSaid : Prop := fnExactEventsRunUptoRow.holds Try.pinned (OpenSpec.upto fnExactEventsRunSpec)

/-- 'laws.FnEventsOfMany', WHERE WHAT IT READS IS OF BULK AT MOST 1048576: true; the input reads as it did. -/
def fnEventsOfManyUptoRow : OpenClaim := { program := "ytaelacpkagcffaa", sum := "ab1befec2fc4abb132d2c50a8c141db6eeca7f50ab11c82298c38e407b46e322", func := "loop.example/sagaflows/laws.FnEventsOfMany", spec := "fnEventsOfMany", unfollowed := true, recurses := true, apart := false, narrowed := true }
def FnEventsOfManyUptoSaid : Prop := fnEventsOfManyUptoRow.holds Try.pinned (OpenSpec.upto fnEventsOfManySpec)

/-- 'laws.FnEventsOf', WHERE WHAT IT READS IS OF BULK AT MOST 1048576: true; the input reads as it did. -/
def fnEventsOfUptoRow : OpenClaim := { program := "ytaelacpkagcffaa", sum := "ab1befec2fc4abb132d2c50a8c141db6eeca7f50ab11c82298c38e407b46e322", func := "loop.example/sagaflows/laws.FnEventsOf", spec := "fnEventsOf", unfollowed := true, recurses := true, apart := false, narrowed := true }
def FnEventsOfUptoSaid : Prop := fnEventsOfUptoRow.holds Try.pinned (OpenSpec.upto fnEventsOfSpec)

/-- 'laws.FnEvent', WHERE WHAT IT READS IS OF BULK AT MOST 1048576: true; the input reads as it did. -/
def fnEventUptoRow : OpenClaim := { program := "ytaelacpkagcffaa", sum := "ab1befec2fc4abb132d2c50a8c141db6eeca7f50ab11c82298c38e407b46e322", func := "loop.example/sagaflows/laws.FnEvent", spec := "fnEvent", unfollowed := true, recurses := true, apart := false, narrowed := true }
def FnEventUptoSaid : Prop := fnEventUptoRow.holds Try.pinned (OpenSpec.upto fnEventSpec)

/-- 'laws.FnEventSame', WHERE WHAT IT READS IS OF BULK AT MOST 1048576: true; the input reads as it did. -/
def fnEventSameUptoRow : OpenClaim := { program := "ytaelacpkagcffaa", sum := "ab1befec2fc4abb132d2c50a8c141db6eeca7f50ab11c82298c38e407b46e322", func := "loop.example/sagaflows/laws.FnEventSame", spec := "fnEventSame", unfollowed := true, recurses := true, apart := false, narrowed := true }
def FnEventSameUptoSaid : Prop := fnEventSameUptoRow.holds Try.pinned (OpenSpec.upto fnEventSameSpec)

/-- 'laws.FnExactEventsOf', WHERE WHAT IT READS IS OF BULK AT MOST 1048576: true; the input reads as it did. -/
def fnExactEventsOfUptoRow : OpenClaim := { program := "ytaelacpkagcffaa", sum := "ab1befec2fc4abb132d2c50a8c141db6eeca7f50ab11c82298c38e407b46e322", func := "loop.example/sagaflows/laws.FnExactEventsOf", spec := "fnExactEventsOf", unfollowed := true, recurses := true, apart := false, narrowed := true }
def FnExactEventsOfUptoSaid : Prop := fnExactEventsOfUptoRow.holds Try.pinned (OpenSpec.upto fnExactEventsOfSpec)

/-- 'laws.FnEventNext', WHERE WHAT IT READS IS OF BULK AT MOST 1048576: true; the input reads as it did. -/
def fnEventNextUptoRow : OpenClaim := { program := "ytaelacpkagcffaa", sum := "ab1befec2fc4abb132d2c50a8c141db6eeca7f50ab11c82298c38e407b46e322", func := "loop.example/sagaflows/laws.FnEventNext", spec := "fnEventNext", unfollowed := true, recurses := true, apart := false, narrowed := true }
def FnEventNextUptoSaid : Prop := fnEventNextUptoRow.holds Try.pinned (OpenSpec.upto fnEventNextSpec)

/-- 'laws.FnEventsPart', WHERE WHAT IT READS IS OF BULK AT MOST 1048576: true; the input reads as it did. -/
def fnEventsPartUptoRow : OpenClaim := { program := "ytaelacpkagcffaa", sum := "ab1befec2fc4abb132d2c50a8c141db6eeca7f50ab11c82298c38e407b46e322", func := "loop.example/sagaflows/laws.FnEventsPart", spec := "fnEventsPart", unfollowed := true, recurses := true, apart := false, narrowed := true }
def FnEventsPartUptoSaid : Prop := fnEventsPartUptoRow.holds Try.pinned (OpenSpec.upto fnEventsPartSpec)

/-- 'laws.FnEventsRun', WHERE WHAT IT READS IS OF BULK AT MOST 1048576: true; the input reads as it did. -/
def fnEventsRunUptoRow : OpenClaim := { program := "ytaelacpkagcffaa", sum := "ab1befec2fc4abb132d2c50a8c141db6eeca7f50ab11c82298c38e407b46e322", func := "loop.example/sagaflows/laws.FnEventsRun", spec := "fnEventsRun", unfollowed := true, recurses := true, apart := false, narrowed := true }
def FnEventsRunUptoSaid : Prop := fnEventsRunUptoRow.holds Try.pinned (OpenSpec.upto fnEventsRunSpec)

end Rows
end Go.Proofs.Ytaelacpkagcffaa
