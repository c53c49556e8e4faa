/- Plain results of the runs' functions, and laws on them. No program. No condition. -/
import Derived.Test.YtdjgpoenlmhonaaRunPlain
namespace Go.Proofs.Ytdjgpoenlmhonaa
set_option linter.unusedVariables false
set_option maxRecDepth 100000

theorem runOk_noFlow {ver st : Int} {ss : List St} {done : List ByteArray} (h : flowOk ver ss = false) : runOk ver ss st done = false := by unfold runOk; rw [h]; rfl
theorem runOk_noDone {ver st : Int} {ss : List St} {done : List ByteArray} (h : doneOk ss done = false) : runOk ver ss st done = false := by unfold runOk; rw [h]; simp
theorem runOk_noSt {ver st : Int} {ss : List St} {done : List ByteArray} (h : stOk st ss done = false) : runOk ver ss st done = false := by unfold runOk; rw [h]; simp
theorem runOk_st {ver st : Int} {ss : List St} {done : List ByteArray} (h1 : flowOk ver ss = true) (h2 : doneOk ss done = true) : runOk ver ss st done = stOk st ss done := by unfold runOk; rw [h1, h2]; rfl
theorem runOk_iff {ver st : Int} {ss : List St} {done : List ByteArray} : runOk ver ss st done = true ↔ flowOk ver ss = true ∧ doneOk ss done = true ∧ stOk st ss done = true := by
  unfold runOk; simp [and_assoc]
theorem stOk_fwd {st : Int} {ss : List St} {done : List ByteArray} (h : st = 0 ∨ st = 2) : stOk st ss done = decide (st = forthSt ss done) := by
  unfold stOk
  have h1 : ¬ st = 1 := by omega
  have h3 : ¬ st = 3 := by omega
  rcases h with rfl | rfl <;> simp
theorem stOk_bwd {st : Int} {ss : List St} {done : List ByteArray} (h : st = 1 ∨ st = 3) : stOk st ss done = (decide (done.length < ss.length) && decide (st = backSt ss done)) := by
  unfold stOk
  rcases h with rfl | rfl <;> simp
theorem stOk_other {st : Int} {ss : List St} {done : List ByteArray} (h : ¬ st = 0 ∧ ¬ st = 1 ∧ ¬ st = 2 ∧ ¬ st = 3) : stOk st ss done = false := by
  unfold stOk
  obtain ⟨h0, h1, h2, h3⟩ := h
  simp [h0, h1, h2, h3]
theorem stOk_zero (ss : List St) (done : List ByteArray) : stOk 0 ss done = !decide (done.length = ss.length) := by
  rw [stOk_fwd (.inl rfl)]
  unfold forthSt
  by_cases h : done.length = ss.length <;> simp [h]
theorem stOk_two (ss : List St) (done : List ByteArray) : stOk 2 ss done = decide (done.length = ss.length) := by
  rw [stOk_fwd (.inr rfl)]
  unfold forthSt
  by_cases h : done.length = ss.length <;> simp [h]
theorem stOk_one (ss : List St) (done : List ByteArray) : stOk 1 ss done = (decide (done.length < ss.length) && decide (backSt ss done = 1)) := by
  rw [stOk_bwd (.inl rfl)]
  congr 1
  rw [decide_eq_decide]
  exact eq_comm
theorem stOk_three (ss : List St) (done : List ByteArray) : stOk 3 ss done = (decide (done.length < ss.length) && decide (backSt ss done = 3)) := by
  rw [stOk_bwd (.inr rfl)]
  congr 1
  rw [decide_eq_decide]
  exact eq_comm

theorem dec_beq (a b : Int) : decide (a = b) = (a == b) := by
  by_cases h : a = b
  · rw [decide_eq_true h, beq_iff_eq.2 h]
  · rw [decide_eq_false h, beq_eq_false_iff_ne.2 h]
theorem two_ways {st a b : Int} (hne : a ≠ b) (h : st = a ∨ st = b) : ((st == a) = true ∧ (st == b) = false) ∨ ((st == a) = false ∧ (st == b) = true) := by
  rcases h with rfl | rfl
  · exact .inl ⟨beq_iff_eq.2 rfl, beq_eq_false_iff_ne.2 hne⟩
  · exact .inr ⟨beq_eq_false_iff_ne.2 (fun e => hne e.symm), beq_iff_eq.2 rfl⟩

/-- Whether a step can be done. -/
def canB (ver : Int) (ss : List St) (st : Int) (done : List ByteArray) (nm : ByteArray) : Bool := runOk ver ss st done && decide (st = 0) && has (ready ss done) nm
theorem canB_iff {ver st : Int} {ss : List St} {done : List ByteArray} {nm : ByteArray} : canB ver ss st done nm = true ↔ runOk ver ss st done = true ∧ st = 0 ∧ nm ∈ ready ss done := by
  unfold canB has; simp [and_assoc]
theorem canB_noRun {ver st : Int} {ss : List St} {done : List ByteArray} (h : runOk ver ss st done = false) (nm : ByteArray) : canB ver ss st done nm = false := by unfold canB; rw [h]; rfl
theorem canB_noSt {ver st : Int} {ss : List St} {done : List ByteArray} (h : ¬ st = 0) (nm : ByteArray) : canB ver ss st done nm = false := by unfold canB; rw [decide_eq_false h]; simp
theorem canB_has {ver st : Int} {ss : List St} {done : List ByteArray} (h : runOk ver ss st done = true) (h0 : st = 0) (nm : ByteArray) : canB ver ss st done nm = has (ready ss done) nm := by unfold canB; rw [h, decide_eq_true h0]; rfl
/-- What RunDo gives. -/
def doSt (ver : Int) (ss : List St) (st : Int) (done : List ByteArray) (nm : ByteArray) : Int := if canB ver ss st done nm then forthSt ss (done ++ [nm]) else 0
def doDone (ver : Int) (ss : List St) (st : Int) (done : List ByteArray) (nm : ByteArray) : List ByteArray := if canB ver ss st done nm then done ++ [nm] else []
/-- What RunFail gives. -/
def failSt (ver : Int) (ss : List St) (st : Int) (done : List ByteArray) (nm : ByteArray) : Int := if canB ver ss st done nm then backSt ss done else 0
def failDone (ver : Int) (ss : List St) (st : Int) (done : List ByteArray) (nm : ByteArray) : List ByteArray := if canB ver ss st done nm then done else []
/-- What RunUndo gives. -/
def undoB (ver : Int) (ss : List St) (st : Int) (done : List ByteArray) : Bool := runOk ver ss st done && decide (st = 1)
def undoSt (ver : Int) (ss : List St) (st : Int) (done : List ByteArray) : Int := if undoB ver ss st done then backSt ss (done.take (done.length - 1)) else 0
def undoDone (ver : Int) (ss : List St) (st : Int) (done : List ByteArray) : List ByteArray := if undoB ver ss st done then done.take (done.length - 1) else []
def undoName (ver : Int) (ss : List St) (st : Int) (done : List ByteArray) : ByteArray := if undoB ver ss st done then done.getLastD ⟨#[]⟩ else ⟨#[]⟩
/-- What RunNext gives. -/
def nextOut (ver : Int) (ss : List St) (st : Int) (done : List ByteArray) : List ByteArray :=
  if runOk ver ss st done then (if st = 0 then ready ss done else if st = 1 then [done.getLastD ⟨#[]⟩] else []) else []
section
variable {ver st : Int} {ss : List St} {done : List ByteArray} {nm : ByteArray}
theorem doSt_yes (h : canB ver ss st done nm = true) : doSt ver ss st done nm = forthSt ss (done ++ [nm]) := by unfold doSt; rw [h]; rfl
theorem doSt_no (h : canB ver ss st done nm = false) : doSt ver ss st done nm = 0 := by unfold doSt; rw [h]; rfl
theorem doDone_yes (h : canB ver ss st done nm = true) : doDone ver ss st done nm = done ++ [nm] := by unfold doDone; rw [h]; rfl
theorem doDone_no (h : canB ver ss st done nm = false) : doDone ver ss st done nm = [] := by unfold doDone; rw [h]; rfl
theorem failSt_yes (h : canB ver ss st done nm = true) : failSt ver ss st done nm = backSt ss done := by unfold failSt; rw [h]; rfl
theorem failSt_no (h : canB ver ss st done nm = false) : failSt ver ss st done nm = 0 := by unfold failSt; rw [h]; rfl
theorem failDone_yes (h : canB ver ss st done nm = true) : failDone ver ss st done nm = done := by unfold failDone; rw [h]; rfl
theorem failDone_no (h : canB ver ss st done nm = false) : failDone ver ss st done nm = [] := by unfold failDone; rw [h]; rfl
theorem undoSt_yes (h : undoB ver ss st done = true) : undoSt ver ss st done = backSt ss (done.take (done.length - 1)) := by unfold undoSt; rw [h]; rfl
theorem undoSt_no (h : undoB ver ss st done = false) : undoSt ver ss st done = 0 := by unfold undoSt; rw [h]; rfl
theorem undoDone_yes (h : undoB ver ss st done = true) : undoDone ver ss st done = done.take (done.length - 1) := by unfold undoDone; rw [h]; rfl
theorem undoDone_no (h : undoB ver ss st done = false) : undoDone ver ss st done = [] := by unfold undoDone; rw [h]; rfl
theorem undoName_yes (h : undoB ver ss st done = true) : undoName ver ss st done = done.getLastD ⟨#[]⟩ := by unfold undoName; rw [h]; rfl
theorem undoName_no (h : undoB ver ss st done = false) : undoName ver ss st done = ⟨#[]⟩ := by unfold undoName; rw [h]; rfl
theorem undoB_iff : undoB ver ss st done = true ↔ runOk ver ss st done = true ∧ st = 1 := by unfold undoB; simp
theorem undoB_noRun (h : runOk ver ss st done = false) : undoB ver ss st done = false := by unfold undoB; rw [h]; rfl
theorem undoB_noSt (h : ¬ st = 1) : undoB ver ss st done = false := by unfold undoB; rw [decide_eq_false h]; simp
theorem nextOut_no (h : runOk ver ss st done = false) : nextOut ver ss st done = [] := by unfold nextOut; rw [h]; rfl
theorem nextOut_zero (h : runOk ver ss 0 done = true) : nextOut ver ss 0 done = ready ss done := by unfold nextOut; rw [h]; rfl
theorem nextOut_one (h : runOk ver ss 1 done = true) : nextOut ver ss 1 done = [done.getLastD ⟨#[]⟩] := by unfold nextOut; rw [h]; rfl
theorem nextOut_end (h : runOk ver ss st done = true) (h0 : ¬ st = 0) (h1 : ¬ st = 1) : nextOut ver ss st done = [] := by unfold nextOut; rw [h, if_pos rfl, if_neg h0, if_neg h1]
/-- A run that goes back has a last step. -/
theorem back_pos (h : runOk ver ss 1 done = true) : 0 < done.length := by
  obtain ⟨_, _, h3⟩ := runOk_iff.1 h
  rw [stOk_one] at h3
  simp only [Bool.and_eq_true, decide_eq_true_eq] at h3
  rcases Nat.eq_zero_or_pos done.length with h0 | h0
  · have := List.eq_nil_of_length_eq_zero h0
    subst this
    have : backSt ss [] = 3 := rfl
    omega
  · exact h0
theorem getLastD_eq (h0 : 0 < done.length) : done.getLastD ⟨#[]⟩ = done[done.length - 1]'(by omega) := by
  rw [List.getLastD_eq_getLast?, List.getLast?_eq_getElem?, List.getElem?_eq_getElem (by omega)]; rfl
theorem run_len (h : runOk ver ss st done = true) : done.length ≤ ss.length := doneOk_len (runOk_iff.1 h).2.1
theorem run_asc (h : runOk ver ss st done = true) : asc (names ss) = true := (flowOk_iff.1 (runOk_iff.1 h).1).2.2.2.2.1
theorem run_sub (h : runOk ver ss st done = true) : ∀ n ∈ done, n ∈ names ss := doneOk_sub (runOk_iff.1 h).2.1
theorem can_sub (h : canB ver ss st done nm = true) : ∀ n ∈ done ++ [nm], n ∈ names ss := by
  obtain ⟨h1, _, h3⟩ := canB_iff.1 h
  intro n hn
  rcases List.mem_append.1 hn with hn | hn
  · exact run_sub h1 n hn
  · simp at hn; subst hn; exact ready_sub h3
theorem can_len (h : canB ver ss st done nm = true) : (done ++ [nm]).length ≤ ss.length := by
  obtain ⟨h1, _, h3⟩ := canB_iff.1 h
  exact doneOk_len (doneOk_snoc (runOk_iff.1 h1).2.1 h3)
theorem run_ss (h : runOk ver ss st done = true) : ss.length ≤ 8 := (flowOk_iff.1 (runOk_iff.1 h).1).2.2.2.1
end
end Go.Proofs.Ytdjgpoenlmhonaa
