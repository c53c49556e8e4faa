/- What is known behind a call whose run has been stored in a box, made before or behind it. No condition. -/
import Derived.Test.YtfkjcldaclkkaaaRuns
import Derived.Test.YtfkjcldaclkkaaaRunBox
import Derived.Deep.DeepCutAuto
namespace Go.Proofs.Ytfkjcldaclkkaaa
set_option linter.unusedVariables false
set_option maxRecDepth 100000
open Go.RowKit

theorem below_drew {w w' : World} (h : Below w.heap.size w w') : Below w.drew.heap.size w.drew w'.drew := ⟨h.os, h.tape, h.output, h.size, h.block⟩
/-- What is known behind a call whose run has been stored in a box. -/
def CutRun (W0 : World) (st : Int) (out : List ByteArray) (base : Nat) (vb : Value) (wx : World) : Prop :=
  ∃ (b : Nat) (A : Option Addr) (c : Nat), vb = .pointer (some ⟨b, 0, none⟩) ∧ Cell2 wx b (.int .i64 st) (.slice A out.length c) ∧ base ≤ b ∧ b < wx.heap.size ∧ OwnStrs wx base A c out ∧ (some b ≠ A.map (·.block)) ∧ Below W0.heap.size W0 wx
theorem cut_last {W0 wK : World} {st : Int} {out : List ByteArray} {base base2 c : Nat} {A : Option Addr} (hb : Below W0.heap.size W0 wK) (ho : OwnStrs wK base2 A c out) (h2 : base ≤ base2) (hz : base ≤ wK.heap.size) :
    CutRun W0 st out base (.pointer (some ⟨wK.heap.size, 0, none⟩)) (wK.alloc (.cells #[.int .i64 st, .slice A out.length c] 52)) := by
  have hs : (wK.alloc (.cells #[.int .i64 st, .slice A out.length c] 52)).heap.size = wK.heap.size + 1 := by simp
  refine ⟨wK.heap.size, A, c, rfl, Cell2.new wK _ _ _, hz, by omega, (ho.base_ h2).alloc _, fun e => ?_, hb.alloc hb.size _⟩
  cases A with
  | none => cases e
  | some p => injection e with e; have e2 : _ = p.block := e; have := (ho.1.lt p.block rfl).2; omega
theorem cut_early {W0 wK : World} {st : Int} {out : List ByteArray} {base base2 b c : Nat} {A : Option Addr} {x y : Value} (hb : Below W0.heap.size W0 wK) (bx : RBox wK b x y) (hbase : base ≤ b) (hW : W0.heap.size ≤ b) (ho : OwnStrs wK base2 A c out) (hlt : b < base2) :
    CutRun W0 st out base (.pointer (some ⟨b, 0, none⟩)) ((wK.setCell ⟨b, 0, none⟩ (.int .i64 st)).setCell ⟨b, 1, none⟩ (.slice A out.length c)) := by
  refine ⟨b, A, c, rfl, bx.set _ _, hbase, by simpa using bx.lt, ((ho.setLow (a := ⟨b, 0, none⟩) hlt _).setLow (a := ⟨b, 1, none⟩) hlt _).base_ (by omega), fun e => ?_, (hb.setCell hW _).setCell hW _⟩
  cases A with
  | none => cases e
  | some p => injection e with e; have e2 : _ = p.block := e; have := (ho.1.lt p.block rfl).1; omega
end Go.Proofs.Ytfkjcldaclkkaaa
