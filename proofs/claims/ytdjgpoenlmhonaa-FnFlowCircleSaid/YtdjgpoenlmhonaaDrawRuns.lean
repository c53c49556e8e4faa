/- Contracts of the draws of a flow and its run from a code: DrawRunNext, DrawEventsOf, DrawRunFail, DrawRunDo. No condition. -/
import Derived.Test.YtdjgpoenlmhonaaDrawBoth
namespace Go.Proofs.Ytdjgpoenlmhonaa
set_option linter.unusedVariables false
set_option maxRecDepth 100000
open Go.RowKit

/-- A flow and its run, drawn from a code. -/
structure BothTop (w w' : World) (SA : Option Addr) (sc : Nat) (ss : List St) (D : Option Addr) (d : Nat) (done : List ByteArray) : Prop where
  sts : Sts w' w'.heap.size SA sc ss
  strs : Strs w' w'.heap.size D d done
  one : 1 ≤ ss.length
  six : ss.length ≤ 6
  small : ∀ s ∈ ss, (1 ≤ s.name.size ∧ s.name.size ≤ 6) ∧ s.after.length ≤ 4 ∧ ∀ x ∈ s.after, x.size ≤ 6
  len : done.length ≤ 7
  sizes : ∀ x ∈ done, x.size ≤ 6
def DrawnBothTop (w : World) (e : Ending) (w' : World) : Prop :=
  ∃ (ver : Int) (SA : Option Addr) (sc : Nat) (ss : List St) (st : Int) (D : Option Addr) (d : Nat) (done : List ByteArray), e = .returned (.tuple #[.agg #[.int .i64 ver, .slice SA ss.length sc], .agg #[.int .i64 st, .slice D done.length d]]) ∧ BothTop w w' SA sc ss D d done ∧ Below w.heap.size w w'
def DrawnNextTop (w : World) (e : Ending) (w' : World) : Prop :=
  ∃ (ver : Int) (SA : Option Addr) (sc : Nat) (ss : List St) (st : Int) (D : Option Addr) (d : Nat) (done : List ByteArray) (nm : ByteArray), e = .returned (.tuple #[.agg #[.int .i64 ver, .slice SA ss.length sc], .agg #[.int .i64 st, .slice D done.length d], .string nm]) ∧ nm.size ≤ 6 ∧ BothTop w w' SA sc ss D d done ∧ Below w.heap.size w w'
/-- What is known while the results are stored. -/
structure TopMid (w wr : World) (SA : Option Addr) (sc : Nat) (ss : List St) (D : Option Addr) (d : Nat) (done : List ByteArray) : Prop where
  steps : OwnSteps wr (w.heap.size + 2) (w.heap.size + 2) SA sc ss
  own : OwnStrs wr (w.heap.size + 2) D d done
  low : Below w.heap.size w wr
section
variable {w wr : World} {SA : Option Addr} {sc : Nat} {ss : List St} {D : Option Addr} {d : Nat} {done : List ByteArray}
theorem TopMid.set0 (m : TopMid w wr SA sc ss D d done) (j : Nat) (u : Value) : TopMid w (wr.setCell ⟨w.heap.size, j, none⟩ u) SA sc ss D d done :=
  have h2 : w.heap.size < w.heap.size + 2 := by omega
  ⟨m.steps.set u h2 (fun q' e => by have := (m.steps.blocks q' e).1; show q'.block ≠ w.heap.size; omega), m.own.setLow h2 u, m.low.setCell (Nat.le_refl _) _⟩
theorem TopMid.set1 (m : TopMid w wr SA sc ss D d done) (j : Nat) (u : Value) : TopMid w (wr.setCell ⟨w.heap.size + 1, j, none⟩ u) SA sc ss D d done :=
  have h2 : w.heap.size + 1 < w.heap.size + 2 := by omega
  ⟨m.steps.set u h2 (fun q' e => by have := (m.steps.blocks q' e).1; show q'.block ≠ w.heap.size + 1; omega), m.own.setLow h2 u, m.low.setCell (by show w.heap.size ≤ w.heap.size + 1; omega) _⟩
theorem TopMid.fin (m : TopMid w wr SA sc ss D d done) (h1 : 1 ≤ ss.length) (h6 : ss.length ≤ 6) (hsm : ∀ s ∈ ss, (1 ≤ s.name.size ∧ s.name.size ≤ 6) ∧ s.after.length ≤ 4 ∧ ∀ x ∈ s.after, x.size ≤ 6) (hl : done.length ≤ 7) (hx : ∀ x ∈ done, x.size ≤ 6) : BothTop w wr SA sc ss D d done ∧ Below w.heap.size w wr :=
  ⟨⟨m.steps.sts, m.own.strs, h1, h6, hsm, hl, hx⟩, m.low⟩
end




end Go.Proofs.Ytdjgpoenlmhonaa
