/- Plain laws on undoing. No program. No condition. -/
import Derived.Test.YtnekjmpmjadmhaaRunLaws
import Derived.Test.YtnekjmpmjadmhaaFindPlain
namespace Go.Proofs.Ytnekjmpmjadmhaa
set_option linter.unusedVariables false
set_option maxRecDepth 100000

theorem last_undo {ver : Int} {ss : List St} {l : List ByteArray} (hf : flowOk ver ss = true) (hs : ∀ n ∈ l, n ∈ names ss) (h0 : 0 < l.length) :
    findB ver ss (l[l.length - 1]'(by omega)) = true ∧ (findSt ver ss (l[l.length - 1]'(by omega))).undo = decide (backSt ss l = 1) := by
  have hm : l[l.length - 1]'(by omega) ∈ names ss := hs _ (List.getElem_mem _)
  have hb := findB_iff.2 ⟨hf, hm⟩
  refine ⟨hb, ?_⟩
  rw [findSt_yes hb, ← undoAt_stepAt hm]
  have hl : l.getLast? = some (l[l.length - 1]'(by omega)) := by rw [List.getLast?_eq_getElem?, List.getElem?_eq_getElem (by omega)]
  unfold backSt
  rw [hl]
  simp only
  by_cases hu : undoAt ss (l[l.length - 1]'(by omega)) = true
  · simp [hu]
  · rw [Bool.not_eq_true] at hu
    simp [hu]
section
variable {ver st : Int} {ss : List St} {done : List ByteArray}
theorem undo_pos (h : undoB ver ss st done = true) : 0 < done.length := by
  obtain ⟨h1, rfl⟩ := undoB_iff.1 h; exact back_pos h1
theorem undo_name (h : undoB ver ss st done = true) : undoName ver ss st done = done[done.length - 1]'(by have := undo_pos h; omega) := by
  rw [undoName_yes h, getLastD_eq (undo_pos h)]
theorem undo_find (h : undoB ver ss st done = true) : findB ver ss (undoName ver ss st done) = true ∧ (findSt ver ss (undoName ver ss st done)).undo = true := by
  obtain ⟨h1, rfl⟩ := undoB_iff.1 h
  obtain ⟨hf, hd, hs⟩ := runOk_iff.1 h1
  rw [stOk_one] at hs
  simp only [Bool.and_eq_true, decide_eq_true_eq] at hs
  rw [undo_name h]
  have := last_undo hf (doneOk_sub hd) (undo_pos h)
  exact ⟨this.1, this.2.trans (decide_eq_true hs.2)⟩
theorem undo_st (h : undoB ver ss st done = true) : undoSt ver ss st done = 1 ∨ undoSt ver ss st done = 3 := by
  rw [undoSt_yes h]; exact backSt_cases _ _
theorem undo_stop (h : undoB ver ss st done = true) (h3 : undoSt ver ss st done = 3) (h0 : 0 < (undoDone ver ss st done).length) :
    findB ver ss ((undoDone ver ss st done)[(undoDone ver ss st done).length - 1]'(by omega)) = true ∧ (findSt ver ss ((undoDone ver ss st done)[(undoDone ver ss st done).length - 1]'(by omega))).undo = false := by
  have hr := undo_ok h
  obtain ⟨hf, hd, _⟩ := runOk_iff.1 hr
  have := last_undo hf (doneOk_sub hd) h0
  refine ⟨this.1, this.2.trans ?_⟩
  rw [undoSt_yes h, ← undoDone_yes h] at h3
  rw [h3]; rfl
end
end Go.Proofs.Ytnekjmpmjadmhaa
