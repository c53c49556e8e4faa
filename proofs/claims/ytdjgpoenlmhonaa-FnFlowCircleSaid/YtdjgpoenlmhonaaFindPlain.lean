/- Plain results of FlowFind. No program. No condition. -/
import Derived.Test.YtdjgpoenlmhonaaRunPlain
namespace Go.Proofs.Ytdjgpoenlmhonaa
set_option linter.unusedVariables false
set_option maxRecDepth 100000

def noStep : St := ⟨⟨#[]⟩, [], false⟩
/-- The step of a name. -/
def stepAt (ss : List St) (n : ByteArray) : St := (ss[(place (names ss) n).toNat]?).getD noStep
def findB (ver : Int) (ss : List St) (n : ByteArray) : Bool := flowOk ver ss && has (names ss) n
/-- What FlowFind gives. -/
def findSt (ver : Int) (ss : List St) (n : ByteArray) : St := if findB ver ss n then stepAt ss n else noStep
section
variable {ver : Int} {ss : List St} {n : ByteArray}
theorem findB_iff : findB ver ss n = true ↔ flowOk ver ss = true ∧ n ∈ names ss := by unfold findB has; simp
theorem findB_noFlow (h : flowOk ver ss = false) : findB ver ss n = false := by unfold findB; rw [h]; rfl
theorem findB_noName (h : n ∉ names ss) : findB ver ss n = false := by unfold findB; rw [has_no h]; simp
theorem findSt_no (h : findB ver ss n = false) : findSt ver ss n = noStep := by unfold findSt; rw [h]; rfl
theorem findSt_yes (h : findB ver ss n = true) : findSt ver ss n = stepAt ss n := by unfold findSt; rw [h]; rfl
theorem stepAt_get {k : Nat} {s : St} (h : ss[k]? = some s) (hk : place (names ss) n = (k : Int)) : stepAt ss n = s := by
  unfold stepAt; rw [hk]; simp [h]
theorem stepAt_spec (h : n ∈ names ss) : stepAt ss n ∈ ss ∧ (stepAt ss n).name = n := by
  obtain ⟨s, hs, hn, hm⟩ := place_get h
  have : stepAt ss n = s := by unfold stepAt; rw [hs]; rfl
  rw [this]; exact ⟨hm, hn⟩
theorem undoAt_stepAt (h : n ∈ names ss) : undoAt ss n = (stepAt ss n).undo := by
  obtain ⟨s, hs, hn, hm⟩ := place_get h
  unfold undoAt stepAt; rw [hs]; rfl
theorem findSt_len (ver : Int) (ss : List St) (n : ByteArray) : (findSt ver ss n).after.length ≤ 4 := by
  unfold findSt
  split
  · rename_i h
    obtain ⟨h1, h2⟩ := findB_iff.1 h
    have := (flowOk_iff.1 h1).2.2.2.2.2.1 _ (stepAt_spec h2).1
    unfold stepOk2 stepOk at this
    simp only [Bool.and_eq_true, decide_eq_true_eq] at this
    omega
  · simp [noStep]
end
end Go.Proofs.Ytdjgpoenlmhonaa
