/- One event as an argument, opened. No condition. -/
import Derived.Test.YtfodedakhnoplaaDoorEvArgs
namespace Go.Proofs.YtfodedakhnoplaaDoor
set_option linter.unusedVariables false
set_option maxRecDepth 100000
open Go.ChangeShapes Go.WideShapes Go.ChangeAt Go.RowKit Go.Deep

def IsEvent (v : Value) : Prop := ∃ (kd : Int) (nm : ByteArray), v = .agg #[.int .i64 kd, .string nm] ∧ nm.size ≤ 9223372036854775807

theorem arg_event {H : Type} {enc : TypeId × Value → H} {W : World} {base : Nat} {v : Value} {d : DataW H} {p : List MemPlace} {sp : Nat → Bool} (hv : Value.okWide Tryd.prog W .any base 23 v) (h : DataW.Trod enc Tryd.prog W 0 sp true 23 v d p) : IsEvent v := by
  obtain ⟨cs, rfl, hsz⟩ := okWide_struct Tryd.underlying23 hv
  obtain ⟨f, hf⟩ := h
  obtain ⟨l⟩ := cs
  have e : (Value.agg ⟨l⟩).cells.toList = l := by simp [Value.cells]
  obtain ⟨k, s, hcs, hs⟩ := event_cells hf
  rw [e] at hcs
  subst hcs
  exact ⟨k, s, rfl, hs⟩
end Go.Proofs.YtfodedakhnoplaaDoor
