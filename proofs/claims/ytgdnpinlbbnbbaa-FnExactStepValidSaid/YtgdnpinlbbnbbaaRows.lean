/-
  No cell of these rows narrows 'for every input' (looked for: loops, veiled, ifaces, maps, wideKeys, modest, calm, conditions, laid).
  DERIVED. THE GIVEN ROWS OF THIS SEAT. 10 by the template 'for every input the law returns true; each argument reads behind the call as it read before'; 0 by the template 'total and deterministic' (their statements: YtgdnpinlbbnbbaaTotals.lean).
  GIVEN WITH THE SEED: the statements are not yours to turn. If you find one false, say at which input.
  Laid BY PROGRAM, IN A SANDBOX (cutbox-rows.mjs): the forced cells as the released guide's own fill.sh prints them over the translation 280829801cc4f67a… (all of the seat's roots in one cut). By AI agents, Wed Nov 11 2026. No macro, syntax, notation, axiom, sorry.
-/
import Derived.Test.YtgdnpinlbbnbbaaChecked
import GoSem.Claim
import GoSem.ClaimJoined
import GoSem.ClaimMapViews
import Derived.JoinedTies
import Derived.KernelRfl
namespace Go.Proofs.Ytgdnpinlbbnbbaa
/- THE CELL 'sum', in the pinned program and in every row, IS THE sha256 OF THE DUMP (.gsa) THAT YtgdnpinlbbnbbaaProg.lean LOADS. Nothing in Lean hashes anything: it is a label: what it is worth is what the hold of that sum in a sandbox is worth. -/
noncomputable def Try.pinned : Pinned := { name := "ytgdnpinlbbnbbaa", sum := "280829801cc4f67a689be44489d1a36a280fd2ffe866d078d8e808a00b746e4d", checked := Try.checked }
namespace Rows
def none {H : Type} : Left H := { results := [], args := [] }

/-- 'laws.FnExactConstants': WHATEVER THE INPUT: true; the input reads as it did. -/
def fnExactConstantsSpec : ChangeSpec := { name := "fnExactConstants", fn := fun _ => fun
  | [] => { results := [.lit (.bool true)], args := [] }
  | _ => none }
def fnExactConstantsRow : OpenClaim := { program := "ytgdnpinlbbnbbaa", sum := "280829801cc4f67a689be44489d1a36a280fd2ffe866d078d8e808a00b746e4d", func := "loop.example/sagaflows/laws.FnExactConstants", spec := "fnExactConstants", apart := false }
def FnExactConstantsSaid : Prop := fnExactConstantsRow.holds Try.pinned (OpenSpec.ofChange fnExactConstantsSpec)

/-- ITS FALSE NEIGHBOUR: 'it returns false'. Refute it at one input. -/
def fnExactConstantsWrong : ChangeSpec := { name := "fnExactConstants", fn := fun _ => fun
  | [] => { results := [.lit (.bool false)], args := [] }
  | _ => none }
def FnExactConstantsWrongFalsely : Prop := fnExactConstantsRow.holds Try.pinned (OpenSpec.ofChange fnExactConstantsWrong)

/-- 'laws.FnExactNameValid': WHATEVER THE INPUT: true; the input reads as it did. -/
def fnExactNameValidSpec : ChangeSpec := { name := "fnExactNameValid", fn := fun _ => fun
  | [d] => { results := [.lit (.bool true)], args := [d] }
  | _ => none }
def fnExactNameValidRow : OpenClaim := { program := "ytgdnpinlbbnbbaa", sum := "280829801cc4f67a689be44489d1a36a280fd2ffe866d078d8e808a00b746e4d", func := "loop.example/sagaflows/laws.FnExactNameValid", spec := "fnExactNameValid", apart := false }
def FnExactNameValidSaid : Prop := fnExactNameValidRow.holds Try.pinned (OpenSpec.ofChange fnExactNameValidSpec)

/-- ITS FALSE NEIGHBOUR: 'it returns false'. Refute it at one input. -/
def fnExactNameValidWrong : ChangeSpec := { name := "fnExactNameValid", fn := fun _ => fun
  | [d] => { results := [.lit (.bool false)], args := [d] }
  | _ => none }
def FnExactNameValidWrongFalsely : Prop := fnExactNameValidRow.holds Try.pinned (OpenSpec.ofChange fnExactNameValidWrong)

/-- 'laws.FnName': WHATEVER THE INPUT: true; the input reads as it did. -/
def fnNameSpec : ChangeSpec := { name := "fnName", fn := fun _ => fun
  | [d] => { results := [.lit (.bool true)], args := [d] }
  | _ => none }
def fnNameRow : OpenClaim := { program := "ytgdnpinlbbnbbaa", sum := "280829801cc4f67a689be44489d1a36a280fd2ffe866d078d8e808a00b746e4d", func := "loop.example/sagaflows/laws.FnName", spec := "fnName", apart := false }
def FnNameSaid : Prop := fnNameRow.holds Try.pinned (OpenSpec.ofChange fnNameSpec)

/-- ITS FALSE NEIGHBOUR: 'it returns false'. Refute it at one input. -/
def fnNameWrong : ChangeSpec := { name := "fnName", fn := fun _ => fun
  | [d] => { results := [.lit (.bool false)], args := [d] }
  | _ => none }
def FnNameWrongFalsely : Prop := fnNameRow.holds Try.pinned (OpenSpec.ofChange fnNameWrong)

/-- 'laws.FnExactNamesHave': WHATEVER THE INPUT: true; the input reads as it did. -/
def fnExactNamesHaveSpec : ChangeSpec := { name := "fnExactNamesHave", fn := fun _ => fun
  | [d1, d2] => { results := [.lit (.bool true)], args := [d1, d2] }
  | _ => none }
def fnExactNamesHaveRow : OpenClaim := { program := "ytgdnpinlbbnbbaa", sum := "280829801cc4f67a689be44489d1a36a280fd2ffe866d078d8e808a00b746e4d", func := "loop.example/sagaflows/laws.FnExactNamesHave", spec := "fnExactNamesHave", apart := false }
def FnExactNamesHaveSaid : Prop := fnExactNamesHaveRow.holds Try.pinned (OpenSpec.ofChange fnExactNamesHaveSpec)

/-- ITS FALSE NEIGHBOUR: 'it returns false'. Refute it at one input. -/
def fnExactNamesHaveWrong : ChangeSpec := { name := "fnExactNamesHave", fn := fun _ => fun
  | [d1, d2] => { results := [.lit (.bool false)], args := [d1, d2] }
  | _ => none }
def FnExactNamesHaveWrongFalsely : Prop := fnExactNamesHaveRow.holds Try.pinned (OpenSpec.ofChange fnExactNamesHaveWrong)

/-- 'laws.FnHaveMore': WHATEVER THE INPUT: true; the input reads as it did. -/
def fnHaveMoreSpec : ChangeSpec := { name := "fnHaveMore", fn := fun _ => fun
  | [d] => { results := [.lit (.bool true)], args := [d] }
  | _ => none }
def fnHaveMoreRow : OpenClaim := { program := "ytgdnpinlbbnbbaa", sum := "280829801cc4f67a689be44489d1a36a280fd2ffe866d078d8e808a00b746e4d", func := "loop.example/sagaflows/laws.FnHaveMore", spec := "fnHaveMore", apart := false }
def FnHaveMoreSaid : Prop := fnHaveMoreRow.holds Try.pinned (OpenSpec.ofChange fnHaveMoreSpec)

/-- ITS FALSE NEIGHBOUR: 'it returns false'. Refute it at one input. -/
def fnHaveMoreWrong : ChangeSpec := { name := "fnHaveMore", fn := fun _ => fun
  | [d] => { results := [.lit (.bool false)], args := [d] }
  | _ => none }
def FnHaveMoreWrongFalsely : Prop := fnHaveMoreRow.holds Try.pinned (OpenSpec.ofChange fnHaveMoreWrong)

/-- 'laws.FnEventsValid': WHATEVER THE INPUT: true; the input reads as it did. -/
def fnEventsValidSpec : ChangeSpec := { name := "fnEventsValid", fn := fun _ => fun
  | [d1, d2] => { results := [.lit (.bool true)], args := [d1, d2] }
  | _ => none }
def fnEventsValidRow : OpenClaim := { program := "ytgdnpinlbbnbbaa", sum := "280829801cc4f67a689be44489d1a36a280fd2ffe866d078d8e808a00b746e4d", func := "loop.example/sagaflows/laws.FnEventsValid", spec := "fnEventsValid", apart := false }
def FnEventsValidSaid : Prop := fnEventsValidRow.holds Try.pinned (OpenSpec.ofChange fnEventsValidSpec)

/-- ITS FALSE NEIGHBOUR: 'it returns false'. Refute it at one input. -/
def fnEventsValidWrong : ChangeSpec := { name := "fnEventsValid", fn := fun _ => fun
  | [d1, d2] => { results := [.lit (.bool false)], args := [d1, d2] }
  | _ => none }
def FnEventsValidWrongFalsely : Prop := fnEventsValidRow.holds Try.pinned (OpenSpec.ofChange fnEventsValidWrong)

/-- 'laws.FnHave': WHATEVER THE INPUT: true; the input reads as it did. -/
def fnHaveSpec : ChangeSpec := { name := "fnHave", fn := fun _ => fun
  | [d] => { results := [.lit (.bool true)], args := [d] }
  | _ => none }
def fnHaveRow : OpenClaim := { program := "ytgdnpinlbbnbbaa", sum := "280829801cc4f67a689be44489d1a36a280fd2ffe866d078d8e808a00b746e4d", func := "loop.example/sagaflows/laws.FnHave", spec := "fnHave", apart := false }
def FnHaveSaid : Prop := fnHaveRow.holds Try.pinned (OpenSpec.ofChange fnHaveSpec)

/-- ITS FALSE NEIGHBOUR: 'it returns false'. Refute it at one input. -/
def fnHaveWrong : ChangeSpec := { name := "fnHave", fn := fun _ => fun
  | [d] => { results := [.lit (.bool false)], args := [d] }
  | _ => none }
def FnHaveWrongFalsely : Prop := fnHaveRow.holds Try.pinned (OpenSpec.ofChange fnHaveWrong)

/-- 'laws.FnExactEventsValid': WHATEVER THE INPUT: true; the input reads as it did. -/
def fnExactEventsValidSpec : ChangeSpec := { name := "fnExactEventsValid", fn := fun _ => fun
  | [d] => { results := [.lit (.bool true)], args := [d] }
  | _ => none }
def fnExactEventsValidRow : OpenClaim := { program := "ytgdnpinlbbnbbaa", sum := "280829801cc4f67a689be44489d1a36a280fd2ffe866d078d8e808a00b746e4d", func := "loop.example/sagaflows/laws.FnExactEventsValid", spec := "fnExactEventsValid", apart := false }
def FnExactEventsValidSaid : Prop := fnExactEventsValidRow.holds Try.pinned (OpenSpec.ofChange fnExactEventsValidSpec)

/-- ITS FALSE NEIGHBOUR: 'it returns false'. Refute it at one input. -/
def fnExactEventsValidWrong : ChangeSpec := { name := "fnExactEventsValid", fn := fun _ => fun
  | [d] => { results := [.lit (.bool false)], args := [d] }
  | _ => none }
def FnExactEventsValidWrongFalsely : Prop := fnExactEventsValidRow.holds Try.pinned (OpenSpec.ofChange fnExactEventsValidWrong)

/-- 'laws.FnStep': WHATEVER THE INPUT: true; the input reads as it did. -/
def fnStepSpec : ChangeSpec := { name := "fnStep", fn := fun _ => fun
  | [d] => { results := [.lit (.bool true)], args := [d] }
  | _ => none }
def fnStepRow : OpenClaim := { program := "ytgdnpinlbbnbbaa", sum := "280829801cc4f67a689be44489d1a36a280fd2ffe866d078d8e808a00b746e4d", func := "loop.example/sagaflows/laws.FnStep", spec := "fnStep", apart := false }
def FnStepSaid : Prop := fnStepRow.holds Try.pinned (OpenSpec.ofChange fnStepSpec)

/-- ITS FALSE NEIGHBOUR: 'it returns false'. Refute it at one input. -/
def fnStepWrong : ChangeSpec := { name := "fnStep", fn := fun _ => fun
  | [d] => { results := [.lit (.bool false)], args := [d] }
  | _ => none }
def FnStepWrongFalsely : Prop := fnStepRow.holds Try.pinned (OpenSpec.ofChange fnStepWrong)

/-- 'laws.FnExactStepValid': WHATEVER THE INPUT: true; the input reads as it did. -/
def fnExactStepValidSpec : ChangeSpec := { name := "fnExactStepValid", fn := fun _ => fun
  | [d] => { results := [.lit (.bool true)], args := [d] }
  | _ => none }
def fnExactStepValidRow : OpenClaim := { program := "ytgdnpinlbbnbbaa", sum := "280829801cc4f67a689be44489d1a36a280fd2ffe866d078d8e808a00b746e4d", func := "loop.example/sagaflows/laws.FnExactStepValid", spec := "fnExactStepValid", apart := false }
def FnExactStepValidSaid : Prop := fnExactStepValidRow.holds Try.pinned (OpenSpec.ofChange fnExactStepValidSpec)

/-- ITS FALSE NEIGHBOUR: 'it returns false'. Refute it at one input. -/
def fnExactStepValidWrong : ChangeSpec := { name := "fnExactStepValid", fn := fun _ => fun
  | [d] => { results := [.lit (.bool false)], args := [d] }
  | _ => none }
def FnExactStepValidWrongFalsely : Prop := fnExactStepValidRow.holds Try.pinned (OpenSpec.ofChange fnExactStepValidWrong)

/- THE SECOND FORM. 'bulk': how many values and letters a reading holds, each counted each time it is reached (what is shared counts as often as it is met; a slice's spare places count too). A statement '..UptoSaid' is the law's where the arguments, and the package variables that the reading takes, are together of bulk at most 1048576: NARROWER than '..Said'. Prove '..Said' where nothing that the law and all that it calls make is longer than what came in: it says more and counts as full. Else prove '..UptoSaid'. A law counts once. -/
mutual
def uptoBulk {H : Type} : DataW H → Nat
  | .lit (.string bytes) => bytes.length + 1
  | .lit _ => 1
  | .nil => 1
  | .ptr d => uptoBulk d + 1
  | .slice elems spare => uptoBulkAll elems + uptoBulkAll spare + 1
  | .agg parts => uptoBulkAll parts + 1
  | .iface _ d => uptoBulk d + 1
  | .map entries => uptoBulkEntries entries + 1
  | .held _ => 1
def uptoBulkAll {H : Type} : List (DataW H) → Nat
  | [] => 0
  | d :: r => uptoBulk d + uptoBulkAll r
def uptoBulkEntries {H : Type} : List (Lit × DataW H) → Nat
  | [] => 0
  | x :: r => uptoBulkEntry x + uptoBulkEntries r
def uptoBulkEntry {H : Type} : Lit × DataW H → Nat
  | (.string bytes, d) => bytes.length + uptoBulk d + 1
  | (_, d) => uptoBulk d + 1
 end
def uptoSmall : (H : Type) → List (DataW H) → Bool := fun _ ds => decide (uptoBulkAll ds ≤ 1048576)
def OpenSpec.upto (s : _root_.Go.ChangeSpec) : _root_.Go.OpenSpec := { _root_.Go.OpenSpec.ofChange s with cond := some uptoSmall }

/-- 'laws.FnExactConstants', WHERE WHAT IT READS IS OF BULK AT MOST 1048576: true; the input reads as it did. -/
def fnExactConstantsUptoRow : OpenClaim := { program := "ytgdnpinlbbnbbaa", sum := "280829801cc4f67a689be44489d1a36a280fd2ffe866d078d8e808a00b746e4d", func := "loop.example/sagaflows/laws.FnExactConstants", spec := "fnExactConstants", apart := false, narrowed := true }
def FnExactConstantsUptoSaid : Prop := fnExactConstantsUptoRow.holds Try.pinned (OpenSpec.upto fnExactConstantsSpec)

/-- 'laws.FnExactNameValid', WHERE WHAT IT READS IS OF BULK AT MOST 1048576: true; the input reads as it did. -/
def fnExactNameValidUptoRow : OpenClaim := { program := "ytgdnpinlbbnbbaa", sum := "280829801cc4f67a689be44489d1a36a280fd2ffe866d078d8e808a00b746e4d", func := "loop.example/sagaflows/laws.FnExactNameValid", spec := "fnExactNameValid", apart := false, narrowed := true }
def FnExactNameValidUptoSaid : Prop := fnExactNameValidUptoRow.holds Try.pinned (OpenSpec.upto fnExactNameValidSpec)

/-- 'laws.FnName', WHERE WHAT IT READS IS OF BULK AT MOST 1048576: true; the input reads as it did. -/
def fnNameUptoRow : OpenClaim := { program := "ytgdnpinlbbnbbaa", sum := "280829801cc4f67a689be44489d1a36a280fd2ffe866d078d8e808a00b746e4d", func := "loop.example/sagaflows/laws.FnName", spec := "fnName", apart := false, narrowed := true }
def FnNameUptoSaid : Prop := fnNameUptoRow.holds Try.pinned (OpenSpec.upto fnNameSpec)

/-- 'laws.FnExactNamesHave', WHERE WHAT IT READS IS OF BULK AT MOST 1048576: true; the input reads as it did. -/
def fnExactNamesHaveUptoRow : OpenClaim := { program := "ytgdnpinlbbnbbaa", sum := "280829801cc4f67a689be44489d1a36a280fd2ffe866d078d8e808a00b746e4d", func := "loop.example/sagaflows/laws.FnExactNamesHave", spec := "fnExactNamesHave", apart := false, narrowed := true }
def FnExactNamesHaveUptoSaid : Prop := fnExactNamesHaveUptoRow.holds Try.pinned (OpenSpec.upto fnExactNamesHaveSpec)

/-- 'laws.FnHaveMore', WHERE WHAT IT READS IS OF BULK AT MOST 1048576: true; the input reads as it did. -/
def fnHaveMoreUptoRow : OpenClaim := { program := "ytgdnpinlbbnbbaa", sum := "280829801cc4f67a689be44489d1a36a280fd2ffe866d078d8e808a00b746e4d", func := "loop.example/sagaflows/laws.FnHaveMore", spec := "fnHaveMore", apart := false, narrowed := true }
def FnHaveMoreUptoSaid : Prop := fnHaveMoreUptoRow.holds Try.pinned (OpenSpec.upto fnHaveMoreSpec)

/-- 'laws.FnEventsValid', WHERE WHAT IT READS IS OF BULK AT MOST 1048576: true; the input reads as it did. -/
def fnEventsValidUptoRow : OpenClaim := { program := "ytgdnpinlbbnbbaa", sum := "280829801cc4f67a689be44489d1a36a280fd2ffe866d078d8e808a00b746e4d", func := "loop.example/sagaflows/laws.FnEventsValid", spec := "fnEventsValid", apart := false, narrowed := true }
def FnEventsValidUptoSaid : Prop := fnEventsValidUptoRow.holds Try.pinned (OpenSpec.upto fnEventsValidSpec)

/-- 'laws.FnHave', WHERE WHAT IT READS IS OF BULK AT MOST 1048576: true; the input reads as it did. -/
def fnHaveUptoRow : OpenClaim := { program := "ytgdnpinlbbnbbaa", sum := "280829801cc4f67a689be44489d1a36a280fd2ffe866d078d8e808a00b746e4d", func := "loop.example/sagaflows/laws.FnHave", spec := "fnHave", apart := false, narrowed := true }
def FnHaveUptoSaid : Prop := fnHaveUptoRow.holds Try.pinned (OpenSpec.upto fnHaveSpec)

/-- 'laws.FnExactEventsValid', WHERE WHAT IT READS IS OF BULK AT MOST 1048576: true; the input reads as it did. -/
def fnExactEventsValidUptoRow : OpenClaim := { program := "ytgdnpinlbbnbbaa", sum := "280829801cc4f67a689be44489d1a36a280fd2ffe866d078d8e808a00b746e4d", func := "loop.example/sagaflows/laws.FnExactEventsValid", spec := "fnExactEventsValid", apart := false, narrowed := true }
def FnExactEventsValidUptoSaid : Prop := fnExactEventsValidUptoRow.holds Try.pinned (OpenSpec.upto fnExactEventsValidSpec)

/-- 'laws.FnStep', WHERE WHAT IT READS IS OF BULK AT MOST 1048576: true; the input reads as it did. -/
def fnStepUptoRow : OpenClaim := { program := "ytgdnpinlbbnbbaa", sum := "280829801cc4f67a689be44489d1a36a280fd2ffe866d078d8e808a00b746e4d", func := "loop.example/sagaflows/laws.FnStep", spec := "fnStep", apart := false, narrowed := true }
def FnStepUptoSaid : Prop := fnStepUptoRow.holds Try.pinned (OpenSpec.upto fnStepSpec)

/-- 'laws.FnExactStepValid', WHERE WHAT IT READS IS OF BULK AT MOST 1048576: true; the input reads as it did. -/
def fnExactStepValidUptoRow : OpenClaim := { program := "ytgdnpinlbbnbbaa", sum := "280829801cc4f67a689be44489d1a36a280fd2ffe866d078d8e808a00b746e4d", func := "loop.example/sagaflows/laws.FnExactStepValid", spec := "fnExactStepValid", apart := false, narrowed := true }
def FnExactStepValidUptoSaid : Prop := fnExactStepValidUptoRow.holds Try.pinned (OpenSpec.upto fnExactStepValidSpec)

end Rows
end Go.Proofs.Ytgdnpinlbbnbbaa
