/- Contracts of the laws' own function sameStep: of the same, and of steps of other names. No condition. -/
import Derived.Test.YtfkjcldaclkkaaaTexts
import Derived.Test.YtfkjcldaclkkaaaFlowWords
import Derived.Test.YtfkjcldaclkkaaaFindPlain
namespace Go.Proofs.Ytfkjcldaclkkaaa
set_option linter.unusedVariables false
set_option maxRecDepth 100000
open Go.RowKit

theorem find_at {ver : Int} {ss : List St} {n : ByteArray} (h : findB ver ss n = true) : ∃ j, ∃ hj : j < ss.length, findSt ver ss n = ss[j] ∧ ss[j].name = n := by
  obtain ⟨h1, h2⟩ := findB_iff.1 h
  obtain ⟨hs, hn⟩ := stepAt_spec h2
  obtain ⟨j, hj, e⟩ := List.getElem_of_mem hs
  exact ⟨j, hj, by rw [findSt_yes h, e], by rw [e]; exact hn⟩
theorem names_ne {ver : Int} {ss : List St} (h : flowOk ver ss = true) {i j : Nat} (hi : i < ss.length) (hj : j < ss.length) (hne : i ≠ j) : ss[i].name ≠ ss[j].name := by
  have hasc := (flowOk_iff.1 h).2.2.2.2.1
  have hl : (names ss).length = ss.length := by simp [names]
  intro e
  rcases Nat.lt_or_gt_of_ne hne with hij | hij
  · exact asc_ne hasc hij (by omega) (by simpa [names] using e)
  · exact asc_ne hasc hij (by omega) (by simpa [names] using e.symm)

set_option maxHeartbeats 1000000 in
theorem sameStep_same (nm : ByteArray) (A A' : Option Addr) (c c' : Nat) (xs : List ByteArray) (u : Bool) (w : World) (B B' : Nat) (h : Strs w B A c xs) (h' : Strs w B' A' c' xs) :
    Calls Try.prog 18 #[.agg #[.string nm, .slice A xs.length c, .bool u], .agg #[.string nm, .slice A' xs.length c', .bool u]] w fun e w' => e = .returned (.bool true) ∧ Below w.heap.size w w' := by
  have hb0 : ∀ o1 o2, Below w.heap.size w ((w.alloc o1).alloc o2) := fun o1 o2 => ((Below.refl _ _).alloc (Nat.le_refl _) _).alloc (by simp) _
  have e0 : (u == u) = true := by cases u <;> rfl
  have e1 : (nm.toList == nm.toList) = true := by simp
  go_enter Try.func18, Try.ntmps18
  go_wp2_with fail
  (with_reducible refine (sameTexts_same A A' c c' xs _ _ _ ((h.fit.alloc (Nat.le_refl _) _).alloc (by simp) _) ((h'.fit.alloc (Nat.le_refl _) _).alloc (by simp) _)).mono ?_)
  rintro e w1 ⟨rfl, hb1⟩
  go_wp2_with fail
  go_ret
  exact ⟨rfl, bthen (hb0 _ _) hb1⟩
set_option maxHeartbeats 1000000 in
theorem sameStep_ne (nm nm' : ByteArray) (X X' : Value) (u u' : Bool) (w : World) (hne : ¬ nm = nm') :
    Calls Try.prog 18 #[.agg #[.string nm, X, .bool u], .agg #[.string nm', X', .bool u']] w fun e w' => e = .returned (.bool false) ∧ Below w.heap.size w w' := by
  have hb0 : ∀ o1 o2, Below w.heap.size w ((w.alloc o1).alloc o2) := fun o1 o2 => ((Below.refl _ _).alloc (Nat.le_refl _) _).alloc (by simp) _
  have e1 : (nm.toList == nm'.toList) = false := by rw [str_beq]; exact decide_eq_false hne
  clear hne
  go_enter Try.func18, Try.ntmps18
  go_wp2_with fail
  go_ret
  exact ⟨rfl, hb0 _ _⟩
end Go.Proofs.Ytfkjcldaclkkaaa
