/- FnExactEventText returns true for all arguments where the listed variables lie as the text lays them: the contract. No other condition. -/
import Derived.Test.YtfodedakhnoplaaDoorTextEv
import Derived.Test.YtfodedakhnoplaaDoorTextSpec
import Derived.Test.YtfodedakhnoplaaDoorEvCopies
import Derived.Test.YtfodedakhnoplaaDoorEvArg
namespace Go.Proofs.YtfodedakhnoplaaDoor
set_option linter.unusedVariables false
set_option maxRecDepth 100000
open Go.ChangeShapes Go.WideShapes Go.ChangeAt Go.RowKit

set_option maxHeartbeats 4000000 in
theorem exactEventText_law (W : World) (n0 : Int) (v1 : Value) (h1 : IsEvent v1) (hL : LaidF W.heap.size W) : Calls Tryd.prog 3 #[.int .i64 n0, v1] W fun e W' => e = .returned (.bool true) ∧ Below W.heap.size W W' := by
  obtain ⟨kd, nm, rfl, hnm⟩ := h1
  go_enter Tryd.func3, Tryd.ntmps3
  have b0 : Below W.heap.size W (W.alloc (.cells #[.int .i64 kd, .string nm] 23)) := (Below.refl _ _).alloc (Nat.le_refl _) _
  go_wp2_with fail
  refine (szEvent_any kd nm 1048576 _ hnm (by omega)).mono ?_
  rintro e w1 ⟨rfl, hr1⟩
  have b1 := bthen b0 hr1
  have q1 := (Cell2.new W (.int .i64 kd) (.string nm) 23).then_ hr1
  clear b0 hr1
  by_cases hbig : 1048576 < nm.size
  · rw [left_no hbig]
    go_wp2_with fail
    go_ret
    exact ⟨rfl, b1⟩
  rw [left_ok (by omega)]
  have hge : ¬ (((1048576 : Nat) : Int) - (nm.size : Int)) < 0 := by omega
  obtain ⟨p0, p1⟩ := id q1
  go_wp2_with fail
  (with_reducible refine (toEvent_any kd nm _).mono ?_)
  rintro e w2 ⟨rfl, hb2⟩
  have q2 := q1.then_ hb2
  have b2 := bthen b1 hb2
  clear q1 b1 hb2 p0 p1 hge
  go_wp2_with fail
  (with_reducible refine (sEventText_any n0 kd nm _ hnm).mono ?_)
  rintro e w3 ⟨rfl, hb3⟩
  have q3 := q2.then_ hb3
  have b3 := bthen b2 hb3
  clear q2 b2 hb3
  obtain ⟨p0, p1⟩ := id q3
  go_wp2_with fail
  (with_reducible refine (toEvent_any kd nm _).mono ?_)
  rintro e w4 ⟨rfl, hb4⟩
  have b4 := bthen b3 hb4
  have L4 := hL.on b4
  clear q3 b3 hb4 p0 p1
  go_wp2_with fail
  (with_reducible refine (iEventText_any n0 kd nm _ _ L4 b4.size hnm).mono ?_)
  rintro e w5 ⟨rfl, hb5⟩
  generalize textB n0 kd nm = T at *
  have hT : (T.toList != T.toList) = false := by simp
  have hT2 : (T.toList == T.toList) = true := by simp
  go_wp2_with fail
  go_ret
  exact ⟨rfl, bthen b4 hb5⟩
end Go.Proofs.YtfodedakhnoplaaDoor
