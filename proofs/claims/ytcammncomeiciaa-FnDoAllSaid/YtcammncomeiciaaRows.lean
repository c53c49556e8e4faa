/-
  No cell of these rows narrows 'for every input' (looked for: loops, veiled, ifaces, maps, wideKeys, modest, calm, conditions, laid).
  DERIVED. THE GIVEN ROWS OF THIS SEAT. 12 by the template 'for every input the law returns true; each argument reads behind the call as it read before'; 0 by the template 'total and deterministic' (their statements: YtcammncomeiciaaTotals.lean).
  GIVEN WITH THE SEED: the statements are not yours to turn. If you find one false, say at which input.
  Laid BY PROGRAM, IN A SANDBOX (cutbox-rows.mjs): the forced cells as the released guide's own fill.sh prints them over the translation 90377bc741544faf… (all of the seat's roots in one cut). By AI agents, Wed Nov 11 2026. No macro, syntax, notation, axiom, sorry.
-/
import Derived.Test.YtcammncomeiciaaChecked
import GoSem.Claim
import GoSem.ClaimJoined
import GoSem.ClaimMapViews
import Derived.JoinedTies
import Derived.KernelRfl
namespace Go.Proofs.Ytcammncomeiciaa
/- THE CELL 'sum', in the pinned program and in every row, IS THE sha256 OF THE DUMP (.gsa) THAT YtcammncomeiciaaProg.lean LOADS. Nothing in Lean hashes anything: it is a label: what it is worth is what the hold of that sum in a sandbox is worth. -/
noncomputable def Try.pinned : Pinned := { name := "ytcammncomeiciaa", sum := "90377bc741544fafe4eba4fa5cd2b3966fd2c1a7630533cf6ffa84a49ed84d68", checked := Try.checked }
namespace Rows
def none {H : Type} : Left H := { results := [], args := [] }

/-- 'laws.FnFlowPart': WHATEVER THE INPUT: true; the input reads as it did. -/
def fnFlowPartSpec : ChangeSpec := { name := "fnFlowPart", fn := fun _ => fun
  | [d] => { results := [.lit (.bool true)], args := [d] }
  | _ => none }
def fnFlowPartRow : OpenClaim := { program := "ytcammncomeiciaa", sum := "90377bc741544fafe4eba4fa5cd2b3966fd2c1a7630533cf6ffa84a49ed84d68", func := "loop.example/sagaflows/laws.FnFlowPart", spec := "fnFlowPart", apart := false }
def FnFlowPartSaid : Prop := fnFlowPartRow.holds Try.pinned (OpenSpec.ofChange fnFlowPartSpec)

/-- ITS FALSE NEIGHBOUR: 'it returns false'. Refute it at one input. -/
def fnFlowPartWrong : ChangeSpec := { name := "fnFlowPart", fn := fun _ => fun
  | [d] => { results := [.lit (.bool false)], args := [d] }
  | _ => none }
def FnFlowPartWrongFalsely : Prop := fnFlowPartRow.holds Try.pinned (OpenSpec.ofChange fnFlowPartWrong)

/-- 'laws.FnOrderReady': WHATEVER THE INPUT: true; the input reads as it did. -/
def fnOrderReadySpec : ChangeSpec := { name := "fnOrderReady", fn := fun _ => fun
  | [d1, d2] => { results := [.lit (.bool true)], args := [d1, d2] }
  | _ => none }
def fnOrderReadyRow : OpenClaim := { program := "ytcammncomeiciaa", sum := "90377bc741544fafe4eba4fa5cd2b3966fd2c1a7630533cf6ffa84a49ed84d68", func := "loop.example/sagaflows/laws.FnOrderReady", spec := "fnOrderReady", apart := false }
def FnOrderReadySaid : Prop := fnOrderReadyRow.holds Try.pinned (OpenSpec.ofChange fnOrderReadySpec)

/-- ITS FALSE NEIGHBOUR: 'it returns false'. Refute it at one input. -/
def fnOrderReadyWrong : ChangeSpec := { name := "fnOrderReady", fn := fun _ => fun
  | [d1, d2] => { results := [.lit (.bool false)], args := [d1, d2] }
  | _ => none }
def FnOrderReadyWrongFalsely : Prop := fnOrderReadyRow.holds Try.pinned (OpenSpec.ofChange fnOrderReadyWrong)

/-- 'laws.FnReadySome': WHATEVER THE INPUT: true; the input reads as it did. -/
def fnReadySomeSpec : ChangeSpec := { name := "fnReadySome", fn := fun _ => fun
  | [d1, d2] => { results := [.lit (.bool true)], args := [d1, d2] }
  | _ => none }
def fnReadySomeRow : OpenClaim := { program := "ytcammncomeiciaa", sum := "90377bc741544fafe4eba4fa5cd2b3966fd2c1a7630533cf6ffa84a49ed84d68", func := "loop.example/sagaflows/laws.FnReadySome", spec := "fnReadySome", apart := false }
def FnReadySomeSaid : Prop := fnReadySomeRow.holds Try.pinned (OpenSpec.ofChange fnReadySomeSpec)

/-- ITS FALSE NEIGHBOUR: 'it returns false'. Refute it at one input. -/
def fnReadySomeWrong : ChangeSpec := { name := "fnReadySome", fn := fun _ => fun
  | [d1, d2] => { results := [.lit (.bool false)], args := [d1, d2] }
  | _ => none }
def FnReadySomeWrongFalsely : Prop := fnReadySomeRow.holds Try.pinned (OpenSpec.ofChange fnReadySomeWrong)

/-- 'laws.FnOrder': WHATEVER THE INPUT: true; the input reads as it did. -/
def fnOrderSpec : ChangeSpec := { name := "fnOrder", fn := fun _ => fun
  | [d] => { results := [.lit (.bool true)], args := [d] }
  | _ => none }
def fnOrderRow : OpenClaim := { program := "ytcammncomeiciaa", sum := "90377bc741544fafe4eba4fa5cd2b3966fd2c1a7630533cf6ffa84a49ed84d68", func := "loop.example/sagaflows/laws.FnOrder", spec := "fnOrder", apart := false }
def FnOrderSaid : Prop := fnOrderRow.holds Try.pinned (OpenSpec.ofChange fnOrderSpec)

/-- ITS FALSE NEIGHBOUR: 'it returns false'. Refute it at one input. -/
def fnOrderWrong : ChangeSpec := { name := "fnOrder", fn := fun _ => fun
  | [d] => { results := [.lit (.bool false)], args := [d] }
  | _ => none }
def FnOrderWrongFalsely : Prop := fnOrderRow.holds Try.pinned (OpenSpec.ofChange fnOrderWrong)

/-- 'laws.FnReady': WHATEVER THE INPUT: true; the input reads as it did. -/
def fnReadySpec : ChangeSpec := { name := "fnReady", fn := fun _ => fun
  | [d] => { results := [.lit (.bool true)], args := [d] }
  | _ => none }
def fnReadyRow : OpenClaim := { program := "ytcammncomeiciaa", sum := "90377bc741544fafe4eba4fa5cd2b3966fd2c1a7630533cf6ffa84a49ed84d68", func := "loop.example/sagaflows/laws.FnReady", spec := "fnReady", apart := false }
def FnReadySaid : Prop := fnReadyRow.holds Try.pinned (OpenSpec.ofChange fnReadySpec)

/-- ITS FALSE NEIGHBOUR: 'it returns false'. Refute it at one input. -/
def fnReadyWrong : ChangeSpec := { name := "fnReady", fn := fun _ => fun
  | [d] => { results := [.lit (.bool false)], args := [d] }
  | _ => none }
def FnReadyWrongFalsely : Prop := fnReadyRow.holds Try.pinned (OpenSpec.ofChange fnReadyWrong)

/-- 'laws.FnReadyDone': WHATEVER THE INPUT: true; the input reads as it did. -/
def fnReadyDoneSpec : ChangeSpec := { name := "fnReadyDone", fn := fun _ => fun
  | [d] => { results := [.lit (.bool true)], args := [d] }
  | _ => none }
def fnReadyDoneRow : OpenClaim := { program := "ytcammncomeiciaa", sum := "90377bc741544fafe4eba4fa5cd2b3966fd2c1a7630533cf6ffa84a49ed84d68", func := "loop.example/sagaflows/laws.FnReadyDone", spec := "fnReadyDone", apart := false }
def FnReadyDoneSaid : Prop := fnReadyDoneRow.holds Try.pinned (OpenSpec.ofChange fnReadyDoneSpec)

/-- ITS FALSE NEIGHBOUR: 'it returns false'. Refute it at one input. -/
def fnReadyDoneWrong : ChangeSpec := { name := "fnReadyDone", fn := fun _ => fun
  | [d] => { results := [.lit (.bool false)], args := [d] }
  | _ => none }
def FnReadyDoneWrongFalsely : Prop := fnReadyDoneRow.holds Try.pinned (OpenSpec.ofChange fnReadyDoneWrong)

/-- 'laws.FnExactFlowValid': WHATEVER THE INPUT: true; the input reads as it did. -/
def fnExactFlowValidSpec : ChangeSpec := { name := "fnExactFlowValid", fn := fun _ => fun
  | [d] => { results := [.lit (.bool true)], args := [d] }
  | _ => none }
def fnExactFlowValidRow : OpenClaim := { program := "ytcammncomeiciaa", sum := "90377bc741544fafe4eba4fa5cd2b3966fd2c1a7630533cf6ffa84a49ed84d68", func := "loop.example/sagaflows/laws.FnExactFlowValid", spec := "fnExactFlowValid", apart := false }
def FnExactFlowValidSaid : Prop := fnExactFlowValidRow.holds Try.pinned (OpenSpec.ofChange fnExactFlowValidSpec)

/-- ITS FALSE NEIGHBOUR: 'it returns false'. Refute it at one input. -/
def fnExactFlowValidWrong : ChangeSpec := { name := "fnExactFlowValid", fn := fun _ => fun
  | [d] => { results := [.lit (.bool false)], args := [d] }
  | _ => none }
def FnExactFlowValidWrongFalsely : Prop := fnExactFlowValidRow.holds Try.pinned (OpenSpec.ofChange fnExactFlowValidWrong)

/-- 'laws.FnNew': WHATEVER THE INPUT: true; the input reads as it did. -/
def fnNewSpec : ChangeSpec := { name := "fnNew", fn := fun _ => fun
  | [d] => { results := [.lit (.bool true)], args := [d] }
  | _ => none }
def fnNewRow : OpenClaim := { program := "ytcammncomeiciaa", sum := "90377bc741544fafe4eba4fa5cd2b3966fd2c1a7630533cf6ffa84a49ed84d68", func := "loop.example/sagaflows/laws.FnNew", spec := "fnNew", unfollowed := true, recurses := true, apart := false }
def FnNewSaid : Prop := fnNewRow.holds Try.pinned (OpenSpec.ofChange fnNewSpec)

/-- ITS FALSE NEIGHBOUR: 'it returns false'. Refute it at one input. -/
def fnNewWrong : ChangeSpec := { name := "fnNew", fn := fun _ => fun
  | [d] => { results := [.lit (.bool false)], args := [d] }
  | _ => none }
def FnNewWrongFalsely : Prop := fnNewRow.holds Try.pinned (OpenSpec.ofChange fnNewWrong)

/-- 'laws.FnDoAll': WHATEVER THE INPUT: true; the input reads as it did. -/
def fnDoAllSpec : ChangeSpec := { name := "fnDoAll", fn := fun _ => fun
  | [d] => { results := [.lit (.bool true)], args := [d] }
  | _ => none }
def fnDoAllRow : OpenClaim := { program := "ytcammncomeiciaa", sum := "90377bc741544fafe4eba4fa5cd2b3966fd2c1a7630533cf6ffa84a49ed84d68", func := "loop.example/sagaflows/laws.FnDoAll", spec := "fnDoAll", unfollowed := true, recurses := true, apart := false }
def FnDoAllSaid : Prop := fnDoAllRow.holds Try.pinned (OpenSpec.ofChange fnDoAllSpec)

/-- ITS FALSE NEIGHBOUR: 'it returns false'. Refute it at one input. -/
def fnDoAllWrong : ChangeSpec := { name := "fnDoAll", fn := fun _ => fun
  | [d] => { results := [.lit (.bool false)], args := [d] }
  | _ => none }
def FnDoAllWrongFalsely : Prop := fnDoAllRow.holds Try.pinned (OpenSpec.ofChange fnDoAllWrong)

/-- 'laws.FnExactFlowOrder': WHATEVER THE INPUT: true; the input reads as it did. -/
def fnExactFlowOrderSpec : ChangeSpec := { name := "fnExactFlowOrder", fn := fun _ => fun
  | [d] => { results := [.lit (.bool true)], args := [d] }
  | _ => none }
def fnExactFlowOrderRow : OpenClaim := { program := "ytcammncomeiciaa", sum := "90377bc741544fafe4eba4fa5cd2b3966fd2c1a7630533cf6ffa84a49ed84d68", func := "loop.example/sagaflows/laws.FnExactFlowOrder", spec := "fnExactFlowOrder", apart := false }
def FnExactFlowOrderSaid : Prop := fnExactFlowOrderRow.holds Try.pinned (OpenSpec.ofChange fnExactFlowOrderSpec)

/-- ITS FALSE NEIGHBOUR: 'it returns false'. Refute it at one input. -/
def fnExactFlowOrderWrong : ChangeSpec := { name := "fnExactFlowOrder", fn := fun _ => fun
  | [d] => { results := [.lit (.bool false)], args := [d] }
  | _ => none }
def FnExactFlowOrderWrongFalsely : Prop := fnExactFlowOrderRow.holds Try.pinned (OpenSpec.ofChange fnExactFlowOrderWrong)

/-- 'laws.FnExactFlowReady': WHATEVER THE INPUT: true; the input reads as it did. -/
def fnExactFlowReadySpec : ChangeSpec := { name := "fnExactFlowReady", fn := fun _ => fun
  | [d1, d2] => { results := [.lit (.bool true)], args := [d1, d2] }
  | _ => none }
def fnExactFlowReadyRow : OpenClaim := { program := "ytcammncomeiciaa", sum := "90377bc741544fafe4eba4fa5cd2b3966fd2c1a7630533cf6ffa84a49ed84d68", func := "loop.example/sagaflows/laws.FnExactFlowReady", spec := "fnExactFlowReady", apart := false }
def FnExactFlowReadySaid : Prop := fnExactFlowReadyRow.holds Try.pinned (OpenSpec.ofChange fnExactFlowReadySpec)

/-- ITS FALSE NEIGHBOUR: 'it returns false'. Refute it at one input. -/
def fnExactFlowReadyWrong : ChangeSpec := { name := "fnExactFlowReady", fn := fun _ => fun
  | [d1, d2] => { results := [.lit (.bool false)], args := [d1, d2] }
  | _ => none }
def FnExactFlowReadyWrongFalsely : Prop := fnExactFlowReadyRow.holds Try.pinned (OpenSpec.ofChange fnExactFlowReadyWrong)

/-- 'laws.FnExactRunNew': WHATEVER THE INPUT: true; the input reads as it did. -/
def fnExactRunNewSpec : ChangeSpec := { name := "fnExactRunNew", fn := fun _ => fun
  | [d] => { results := [.lit (.bool true)], args := [d] }
  | _ => none }
def fnExactRunNewRow : OpenClaim := { program := "ytcammncomeiciaa", sum := "90377bc741544fafe4eba4fa5cd2b3966fd2c1a7630533cf6ffa84a49ed84d68", func := "loop.example/sagaflows/laws.FnExactRunNew", spec := "fnExactRunNew", apart := false }
def FnExactRunNewSaid : Prop := fnExactRunNewRow.holds Try.pinned (OpenSpec.ofChange fnExactRunNewSpec)

/-- ITS FALSE NEIGHBOUR: 'it returns false'. Refute it at one input. -/
def fnExactRunNewWrong : ChangeSpec := { name := "fnExactRunNew", fn := fun _ => fun
  | [d] => { results := [.lit (.bool false)], args := [d] }
  | _ => none }
def FnExactRunNewWrongFalsely : Prop := fnExactRunNewRow.holds Try.pinned (OpenSpec.ofChange fnExactRunNewWrong)

/- THE SECOND FORM. 'bulk': how many values and letters a reading holds, each counted each time it is reached (what is shared counts as often as it is met; a slice's spare places count too). A statement '..UptoSaid' is the law's where the arguments, and the package variables that the reading takes, are together of bulk at most 1048576: NARROWER than '..Said'. Prove '..Said' where nothing that the law and all that it calls make is longer than what came in: it says more and counts as full. Else prove '..UptoSaid'. A law counts once. -/
mutual
def uptoBulk {H : Type} : DataW H → Nat
  | .lit (.string bytes) => bytes.length + 1
  | .lit _ => 1
  | .nil => 1
  | .ptr d => uptoBulk d + 1
  | .slice elems spare => uptoBulkAll elems + uptoBulkAll spare + 1
  | .agg parts => uptoBulkAll parts + 1
  | .iface _ d => uptoBulk d + 1
  | .map entries => uptoBulkEntries entries + 1
  | .held _ => 1
def uptoBulkAll {H : Type} : List (DataW H) → Nat
  | [] => 0
  | d :: r => uptoBulk d + uptoBulkAll r
def uptoBulkEntries {H : Type} : List (Lit × DataW H) → Nat
  | [] => 0
  | x :: r => uptoBulkEntry x + uptoBulkEntries r
def uptoBulkEntry {H : Type} : Lit × DataW H → Nat
  | (.string bytes, d) => bytes.length + uptoBulk d + 1
  | (_, d) => uptoBulk d + 1
 end
def uptoSmall : (H : Type) → List (DataW H) → Bool := fun _ ds => decide (uptoBulkAll ds ≤ 1048576)
def OpenSpec.upto (s : _root_.Go.ChangeSpec) : _root_.Go.OpenSpec := { _root_.Go.OpenSpec.ofChange s with cond := some uptoSmall }

/-- 'laws.FnFlowPart', WHERE WHAT IT READS IS OF BULK AT MOST 1048576: true; the input reads as it did. -/
def fnFlowPartUptoRow : OpenClaim := { program := "ytcammncomeiciaa", sum := "90377bc741544fafe4eba4fa5cd2b3966fd2c1a7630533cf6ffa84a49ed84d68", func := "loop.example/sagaflows/laws.FnFlowPart", spec := "fnFlowPart", apart := false, narrowed := true }
def FnFlowPartUptoSaid : Prop := fnFlowPartUptoRow.holds Try.pinned (OpenSpec.upto fnFlowPartSpec)

/-- 'laws.FnOrderReady', WHERE WHAT IT READS IS OF BULK AT MOST 1048576: true; the input reads as it did. -/
def fnOrderReadyUptoRow : OpenClaim := { program := "ytcammncomeiciaa", sum := "90377bc741544fafe4eba4fa5cd2b3966fd2c1a7630533cf6ffa84a49ed84d68", func := "loop.example/sagaflows/laws.FnOrderReady", spec := "fnOrderReady", apart := false, narrowed := true }
def FnOrderReadyUptoSaid : Prop := fnOrderReadyUptoRow.holds Try.pinned (OpenSpec.upto fnOrderReadySpec)

/-- 'laws.FnReadySome', WHERE WHAT IT READS IS OF BULK AT MOST 1048576: true; the input reads as it did. -/
def fnReadySomeUptoRow : OpenClaim := { program := "ytcammncomeiciaa", sum := "90377bc741544fafe4eba4fa5cd2b3966fd2c1a7630533cf6ffa84a49ed84d68", func := "loop.example/sagaflows/laws.FnReadySome", spec := "fnReadySome", apart := false, narrowed := true }
def FnReadySomeUptoSaid : Prop := fnReadySomeUptoRow.holds Try.pinned (OpenSpec.upto fnReadySomeSpec)

/-- 'laws.FnOrder', WHERE WHAT IT READS IS OF BULK AT MOST 1048576: true; the input reads as it did. -/
def fnOrderUptoRow : OpenClaim := { program := "ytcammncomeiciaa", sum := "90377bc741544fafe4eba4fa5cd2b3966fd2c1a7630533cf6ffa84a49ed84d68", func := "loop.example/sagaflows/laws.FnOrder", spec := "fnOrder", apart := false, narrowed := true }
def FnOrderUptoSaid : Prop := fnOrderUptoRow.holds Try.pinned (OpenSpec.upto fnOrderSpec)

/-- 'laws.FnReady', WHERE WHAT IT READS IS OF BULK AT MOST 1048576: true; the input reads as it did. -/
def fnReadyUptoRow : OpenClaim := { program := "ytcammncomeiciaa", sum := "90377bc741544fafe4eba4fa5cd2b3966fd2c1a7630533cf6ffa84a49ed84d68", func := "loop.example/sagaflows/laws.FnReady", spec := "fnReady", apart := false, narrowed := true }
def FnReadyUptoSaid : Prop := fnReadyUptoRow.holds Try.pinned (OpenSpec.upto fnReadySpec)

/-- 'laws.FnReadyDone', WHERE WHAT IT READS IS OF BULK AT MOST 1048576: true; the input reads as it did. -/
def fnReadyDoneUptoRow : OpenClaim := { program := "ytcammncomeiciaa", sum := "90377bc741544fafe4eba4fa5cd2b3966fd2c1a7630533cf6ffa84a49ed84d68", func := "loop.example/sagaflows/laws.FnReadyDone", spec := "fnReadyDone", apart := false, narrowed := true }
def FnReadyDoneUptoSaid : Prop := fnReadyDoneUptoRow.holds Try.pinned (OpenSpec.upto fnReadyDoneSpec)

/-- 'laws.FnExactFlowValid', WHERE WHAT IT READS IS OF BULK AT MOST 1048576: true; the input reads as it did. -/
def fnExactFlowValidUptoRow : OpenClaim := { program := "ytcammncomeiciaa", sum := "90377bc741544fafe4eba4fa5cd2b3966fd2c1a7630533cf6ffa84a49ed84d68", func := "loop.example/sagaflows/laws.FnExactFlowValid", spec := "fnExactFlowValid", apart := false, narrowed := true }
def FnExactFlowValidUptoSaid : Prop := fnExactFlowValidUptoRow.holds Try.pinned (OpenSpec.upto fnExactFlowValidSpec)

/-- 'laws.FnNew', WHERE WHAT IT READS IS OF BULK AT MOST 1048576: true; the input reads as it did. -/
def fnNewUptoRow : OpenClaim := { program := "ytcammncomeiciaa", sum := "90377bc741544fafe4eba4fa5cd2b3966fd2c1a7630533cf6ffa84a49ed84d68", func := "loop.example/sagaflows/laws.FnNew", spec := "fnNew", unfollowed := true, recurses := true, apart := false, narrowed := true }
def FnNewUptoSaid : Prop := fnNewUptoRow.holds Try.pinned (OpenSpec.upto fnNewSpec)

/-- 'laws.FnDoAll', WHERE WHAT IT READS IS OF BULK AT MOST 1048576: true; the input reads as it did. -/
def fnDoAllUptoRow : OpenClaim := { program := "ytcammncomeiciaa", sum := "90377bc741544fafe4eba4fa5cd2b3966fd2c1a7630533cf6ffa84a49ed84d68", func := "loop.example/sagaflows/laws.FnDoAll", spec := "fnDoAll", unfollowed := true, recurses := true, apart := false, narrowed := true }
def FnDoAllUptoSaid : Prop := fnDoAllUptoRow.holds Try.pinned (OpenSpec.upto fnDoAllSpec)

/-- 'laws.FnExactFlowOrder', WHERE WHAT IT READS IS OF BULK AT MOST 1048576: true; the input reads as it did. -/
def fnExactFlowOrderUptoRow : OpenClaim := { program := "ytcammncomeiciaa", sum := "90377bc741544fafe4eba4fa5cd2b3966fd2c1a7630533cf6ffa84a49ed84d68", func := "loop.example/sagaflows/laws.FnExactFlowOrder", spec := "fnExactFlowOrder", apart := false, narrowed := true }
def FnExactFlowOrderUptoSaid : Prop := fnExactFlowOrderUptoRow.holds Try.pinned (OpenSpec.upto fnExactFlowOrderSpec)

/-- 'laws.FnExactFlowReady', WHERE WHAT IT READS IS OF BULK AT MOST 1048576: true; the input reads as it did. -/
def fnExactFlowReadyUptoRow : OpenClaim := { program := "ytcammncomeiciaa", sum := "90377bc741544fafe4eba4fa5cd2b3966fd2c1a7630533cf6ffa84a49ed84d68", func := "loop.example/sagaflows/laws.FnExactFlowReady", spec := "fnExactFlowReady", apart := false, narrowed := true }
def FnExactFlowReadyUptoSaid : Prop := fnExactFlowReadyUptoRow.holds Try.pinned (OpenSpec.upto fnExactFlowReadySpec)

/-- 'laws.FnExactRunNew', WHERE WHAT IT READS IS OF BULK AT MOST 1048576: true; the input reads as it did. -/
def fnExactRunNewUptoRow : OpenClaim := { program := "ytcammncomeiciaa", sum := "90377bc741544fafe4eba4fa5cd2b3966fd2c1a7630533cf6ffa84a49ed84d68", func := "loop.example/sagaflows/laws.FnExactRunNew", spec := "fnExactRunNew", apart := false, narrowed := true }
def FnExactRunNewUptoSaid : Prop := fnExactRunNewUptoRow.holds Try.pinned (OpenSpec.upto fnExactRunNewSpec)

end Rows
end Go.Proofs.Ytcammncomeiciaa
