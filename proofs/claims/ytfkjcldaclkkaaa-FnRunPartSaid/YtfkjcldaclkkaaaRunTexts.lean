/- Contracts of the laws' own function sameRun; small words for laws on runs. No condition. -/
import Derived.Test.YtfkjcldaclkkaaaTexts
import Derived.Test.YtfkjcldaclkkaaaRunLaws
import Derived.Test.YtfkjcldaclkkaaaFlowFns
import Derived.Test.YtfkjcldaclkkaaaCutRun
namespace Go.Proofs.Ytfkjcldaclkkaaa
set_option linter.unusedVariables false
set_option maxRecDepth 100000
open Go.RowKit

theorem Sts.alloc2 {w : World} {B c : Nat} {A : Option Addr} {ss : List St} (h : Sts w B A c ss) (o : Obj) : Sts (w.alloc o) w.heap.size A c ss := h.fit.alloc (Nat.le_refl _) o
theorem Strs.alloc2 {w : World} {B c : Nat} {A : Option Addr} {xs : List ByteArray} (h : Strs w B A c xs) (o : Obj) : Strs (w.alloc o) w.heap.size A c xs := h.fit.alloc (Nat.le_refl _) o
theorem strs_none (w : World) (B : Nat) (A : Option Addr) (c : Nat) (h : c ≤ 9223372036854775807) : Strs w B A c noNames := ⟨by simp [noNames], h, fun j h => absurd h (by simp [noNames]), fun h => absurd h (by simp [noNames])⟩
theorem strs_nil0 (w : World) (B : Nat) (A : Option Addr) : Strs w B A 0 noNames := strs_none w B A 0 (by omega)
theorem new_ok {ver : Int} {ss : List St} (h : flowOk ver ss = true) (h1 : 1 ≤ ss.length) : runOk ver ss 0 noNames = true := by
  refine runOk_iff.2 ⟨h, doneOk_iff.2 fun i hi => absurd hi (by simp [noNames]), ?_⟩
  rw [stOk_zero]
  have : ¬ noNames.length = ss.length := by simp [noNames]; omega
  simp [this]
set_option maxHeartbeats 400000 in
theorem sameRun_same (st : Int) (A A' : Option Addr) (c c' : Nat) (xs : List ByteArray) (w : World) (B B' : Nat) (h : Strs w B A c xs) (h' : Strs w B' A' c' xs) :
    Calls Try.prog 50 #[.agg #[.int .i64 st, .slice A xs.length c], .agg #[.int .i64 st, .slice A' xs.length c']] w fun e w' => e = .returned (.bool true) ∧ Below w.heap.size w w' := by
  have hb0 : ∀ o1 o2, Below w.heap.size w ((w.alloc o1).alloc o2) := fun o1 o2 => ((Below.refl _ _).alloc (Nat.le_refl _) _).alloc (by simp) _
  have e0 : (st == st) = true := beq_iff_eq.2 rfl
  go_enter Try.func50, Try.ntmps50
  go_wp2_with fail
  (with_reducible refine (sameTexts_same A A' c c' xs _ _ _ ((h.fit.alloc (Nat.le_refl _) _).alloc (by simp) _) ((h'.fit.alloc (Nat.le_refl _) _).alloc (by simp) _)).mono ?_)
  rintro e w1 ⟨rfl, hb1⟩
  go_wp2_with fail
  go_ret
  exact ⟨rfl, bthen (hb0 _ _) hb1⟩
end Go.Proofs.Ytfkjcldaclkkaaa
