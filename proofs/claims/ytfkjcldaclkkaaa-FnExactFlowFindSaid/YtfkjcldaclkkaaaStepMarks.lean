/- Contracts of the laws' own functions on one step: eqStep (of alike ones), markStep, heldStep. Condition: sizes as the laws ask them. -/
import Derived.Test.YtfkjcldaclkkaaaExactWords
import Derived.Test.YtfkjcldaclkkaaaStepCopies
namespace Go.Proofs.Ytfkjcldaclkkaaa
set_option linter.unusedVariables false
set_option maxRecDepth 100000
open Go.RowKit

theorem eqStep_same (nm : ByteArray) (A A' : Option Addr) (c c' : Nat) (xs : List ByteArray) (u : Bool) (w : World) (B B' : Nat) (h : Strs w B A c xs) (h' : Strs w B' A' c' xs) :
    Calls Try.prog 29 #[.agg #[.string nm, .slice A xs.length c, .bool u], .agg #[.string nm, .slice A' xs.length c', .bool u]] w fun e w' => e = .returned (.bool true) ∧ Below w.heap.size w w' :=
  eqStep_any nm nm A A' c c' xs xs u u w B B' h h' true (Lib.hid (by simp))
set_option maxHeartbeats 400000 in
theorem markStep_one (nm : ByteArray) (A : Option Addr) (c : Nat) (xs : List ByteArray) (u : Bool) (w : World) (base : Nat) (h : OwnStrs w base A c xs) (hl : xs.length ≤ 5000000) :
    Calls Try.prog 32 #[.agg #[.string nm, .slice A xs.length c, .bool u], .int .i64 1] w fun e w' => e = .returned (.int .i64 (xs.length + 1)) ∧ OwnStrs w' base A c (marks 1 xs.length) ∧ w.grownBy w' (A.map (·.block)) := by
  go_enter Try.func32, Try.ntmps32
  go_wp2_with fail
  (with_reducible refine (markStringS_one A c xs _ base (h.alloc _) hl).mono ?_)
  rintro e w1 ⟨rfl, ho, hg⟩
  have hg2 := grown_after_alloc hg
  go_wp2_with fail
  go_ret
  exact ⟨rfl, ho, hg2⟩
set_option maxHeartbeats 400000 in
theorem heldStep_one (nm : ByteArray) (A : Option Addr) (c n : Nat) (u : Bool) (w : World) (B : Nat) (h : Strs w B A c (marks 1 n)) (hl : n ≤ 5000000) :
    Calls Try.prog 33 #[.agg #[.string nm, .slice A n c, .bool u], .int .i64 1] w fun e w' => e = .returned (.int .i64 (n + 1)) ∧ Below w.heap.size w w' := by
  have hb0 : ∀ o1, Below w.heap.size w (w.alloc o1) := fun o1 => (Below.refl _ _).alloc (Nat.le_refl _) _
  have hn : ¬ ((n : Int) + 1 < 0) := by omega
  go_enter Try.func33, Try.ntmps33
  go_wp2_with fail
  (with_reducible refine (heldStringS_one A c n _ _ (h.fit.alloc (Nat.le_refl _) _) hl).mono ?_)
  rintro e w1 ⟨rfl, hb1⟩
  go_wp2_with fail
  go_ret
  exact ⟨rfl, bthen (hb0 _) hb1⟩
end Go.Proofs.Ytfkjcldaclkkaaa
