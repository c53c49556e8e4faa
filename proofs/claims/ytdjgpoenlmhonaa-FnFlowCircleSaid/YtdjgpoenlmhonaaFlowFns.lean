/- Contracts of FlowReady, FlowOrder, RunNew: program and reference. Condition: at most 2000000 steps. -/
import Derived.Test.YtdjgpoenlmhonaaFlowValid
import Derived.Test.YtdjgpoenlmhonaaSpecFlowValid
namespace Go.Proofs.Ytdjgpoenlmhonaa
set_option linter.unusedVariables false
set_option maxRecDepth 100000
open Go.RowKit

def readyOut (ver : Int) (ss : List St) (done : List ByteArray) : List ByteArray := if flowOk ver ss then ready ss done else []
def orderOut (ver : Int) (ss : List St) : List ByteArray := if flowOk ver ss then ord ss else []
theorem readyOut_no {ver : Int} {ss : List St} (h : flowOk ver ss = false) (done : List ByteArray) : readyOut ver ss done = [] := by unfold readyOut; rw [h]; rfl
theorem readyOut_yes {ver : Int} {ss : List St} (h : flowOk ver ss = true) (done : List ByteArray) : readyOut ver ss done = ready ss done := by unfold readyOut; rw [h]; rfl
theorem orderOut_no {ver : Int} {ss : List St} (h : flowOk ver ss = false) : orderOut ver ss = [] := by unfold orderOut; rw [h]; rfl
theorem orderOut_yes {ver : Int} {ss : List St} (h : flowOk ver ss = true) : orderOut ver ss = ord ss := by unfold orderOut; rw [h]; rfl
theorem flowOk_names {ver : Int} {ss : List St} (h : flowOk ver ss = true) : ∀ s ∈ ss, s.name ≠ ⟨#[]⟩ := by
  intro s hs e
  have e1 := (flowOk_iff.1 h).2.2.2.2.2.1 s hs
  unfold stepOk2 stepOk at e1
  simp only [Bool.and_eq_true] at e1
  have := nameOk_size e1.1.1.1.1
  rw [e] at this
  exact absurd this.1 (by decide)

/-- No names. -/
def noNames : List ByteArray := []
/-- A run is handed back, with a word whether all is fine; what is done lies in memory of the call's own. -/
def RetRun (st : Int) (done : List ByteArray) (ok : Bool) (w : World) (e : Ending) (w' : World) : Prop :=
  ∃ A c, e = .returned (.tuple #[.agg #[.int .i64 st, .slice A done.length c], .bool ok]) ∧ OwnStrs w' w.heap.size A c done ∧ Below w.heap.size w w'

theorem own_lit0 (w : World) (base : Nat) (hb : base ≤ w.heap.size) : OwnStrs (w.alloc (.cells #[] 9)) base (some ⟨w.heap.size, 0, none⟩) 0 [] :=
  ⟨World.ownsRow_lit w #[] 0 hb (by simp only [maxLen]; omega) rfl, fun x hx => by cases hx⟩







end Go.Proofs.Ytdjgpoenlmhonaa
