/- Plain laws on what the runs' functions give. No program. No condition. -/
import Derived.Test.YtdjgpoenlmhonaaRunOuts
namespace Go.Proofs.Ytdjgpoenlmhonaa
set_option linter.unusedVariables false
set_option maxRecDepth 100000

theorem first_out (xs done : List ByteArray) : ∀ k, k ≤ xs.length → (∀ i, (h : i < xs.length) → i < k → xs[i] ∈ done) ∨ ∃ i, ∃ h : i < xs.length, i < k ∧ xs[i] ∉ done ∧ ∀ j, (hj : j < xs.length) → j < i → xs[j] ∈ done
  | 0, _ => .inl fun i _ h => absurd h (by omega)
  | k + 1, hk => by
    rcases first_out xs done k (by omega) with h | ⟨i, h1, h2, h3, h4⟩
    · by_cases hm : xs[k]'(by omega) ∈ done
      · refine .inl fun i hi hlt => ?_
        by_cases e : i = k
        · subst e; exact hm
        · exact h i hi (by omega)
      · exact .inr ⟨k, by omega, by omega, hm, fun j hj hlt => h j hj hlt⟩
    · exact .inr ⟨i, h1, by omega, h3, h4⟩
/-- There is something ready until all is done. -/
theorem ready_some {ver : Int} {ss : List St} {done : List ByteArray} (hf : flowOk ver ss = true) (hd : doneOk ss done = true) (hl : done.length ≠ ss.length) : ready ss done ≠ [] := by
  obtain ⟨_, _, _, _, hasc, _, hord⟩ := flowOk_iff.1 hf
  have hle := doneOk_len hd
  rcases first_out (ord ss) done (ord ss).length (Nat.le_refl _) with h | ⟨i, h1, _, h3, h4⟩
  · exfalso
    have := nodup_sub_length (ordN_nodup ss ss.length) (ys := done) (fun x hx => by
      obtain ⟨j, hj, rfl⟩ := List.getElem_of_mem hx
      exact h j hj hj)
    have e : (ordN ss ss.length).length = ss.length := hord
    omega
  · obtain ⟨r, hr⟩ := ord_head hord (k := i) (by omega)
    have hm : (ord ss)[i] ∈ ready ss ((ord ss).take i) := by rw [hr]; simp
    obtain ⟨s, hs, hready, hn⟩ := mem_ready.1 hm
    have hm2 : (ord ss)[i] ∈ ready ss done := by
      refine mem_ready.2 ⟨s, hs, ?_, hn⟩
      unfold isReady at hready ⊢
      simp only [Bool.and_eq_true, Bool.not_eq_true'] at hready ⊢
      refine ⟨by rw [hn]; exact has_no h3, ?_⟩
      rw [haveAll_iff] at hready ⊢
      intro y hy
      obtain ⟨j, hj, e⟩ := List.mem_take_iff_getElem.1 (hready.2 y hy)
      rw [← e]
      exact h4 j (by omega) (by omega)
    intro e
    rw [e] at hm2
    cases hm2
/-- The order's steps can be done one after the other. -/
theorem ord_doneOk {ver : Int} {ss : List St} (hf : flowOk ver ss = true) (k : Nat) : doneOk ss ((ord ss).take k) = true := by
  obtain ⟨_, _, _, _, _, _, hord⟩ := flowOk_iff.1 hf
  refine doneOk_take (doneOk_iff.2 fun i hi => ?_) k
  obtain ⟨r, hr⟩ := ord_head hord (k := i) (by omega)
  rw [hr]; simp
theorem ord_can {ver : Int} {ss : List St} (hf : flowOk ver ss = true) {k : Nat} (hk : k < (ord ss).length) : canB ver ss 0 ((ord ss).take k) (ord ss)[k] = true := by
  obtain ⟨_, _, _, _, _, _, hord⟩ := flowOk_iff.1 hf
  refine canB_iff.2 ⟨runOk_iff.2 ⟨hf, ord_doneOk hf k, ?_⟩, rfl, ?_⟩
  · rw [stOk_zero]
    have : ¬ ((ord ss).take k).length = ss.length := by rw [List.length_take]; omega
    rw [decide_eq_false this]; rfl
  · obtain ⟨r, hr⟩ := ord_head hord (k := k) (by omega)
    rw [hr]; simp
theorem ord_do {ver : Int} {ss : List St} (hf : flowOk ver ss = true) {k : Nat} (hk : k < (ord ss).length) :
    doDone ver ss 0 ((ord ss).take k) (ord ss)[k] = (ord ss).take (k + 1) ∧ doSt ver ss 0 ((ord ss).take k) (ord ss)[k] = forthSt ss ((ord ss).take (k + 1)) := by
  have h := ord_can hf hk
  have e := List.take_succ_eq_append_getElem hk
  exact ⟨by rw [doDone_yes h, e], by rw [doSt_yes h, e]⟩
theorem ord_forth {ver : Int} {ss : List St} (hf : flowOk ver ss = true) {k : Nat} (hk : k < (ord ss).length) : forthSt ss ((ord ss).take k) = 0 := by
  obtain ⟨_, _, _, _, _, _, hord⟩ := flowOk_iff.1 hf
  unfold forthSt
  rw [if_neg (by rw [List.length_take]; omega)]
theorem ord_forth_end {ver : Int} {ss : List St} (hf : flowOk ver ss = true) : forthSt ss ((ord ss).take (ord ss).length) = 2 := by
  obtain ⟨_, _, _, _, _, _, hord⟩ := flowOk_iff.1 hf
  unfold forthSt
  rw [List.take_length, if_pos hord]
section
variable {ver st : Int} {ss : List St} {done : List ByteArray} {nm : ByteArray}
theorem stOk_len (h : stOk 0 ss done = true) : done.length ≠ ss.length := by
  rw [stOk_zero] at h
  simpa using h
/-- What RunDo gives is a run. -/
theorem do_ok (h : canB ver ss st done nm = true) : runOk ver ss (doSt ver ss st done nm) (doDone ver ss st done nm) = true := by
  obtain ⟨h1, h2, h3⟩ := canB_iff.1 h
  obtain ⟨hf, hd, _⟩ := runOk_iff.1 h1
  rw [doSt_yes h, doDone_yes h]
  refine runOk_iff.2 ⟨hf, doneOk_snoc hd h3, ?_⟩
  rcases forthSt_cases ss (done ++ [nm]) with e | e
  · rw [stOk_fwd (.inl e)]; simp
  · rw [stOk_fwd (.inr e)]; simp
theorem do_end (h : canB ver ss st done nm = true) : (doSt ver ss st done nm = 2) ↔ (done.length + 1 = ss.length) := by
  rw [doSt_yes h]
  unfold forthSt
  simp only [List.length_append, List.length_cons, List.length_nil]
  by_cases e : done.length + (0 + 1) = ss.length
  · rw [if_pos e]; simp; omega
  · rw [if_neg e]; simp; omega
theorem back_ok (hf : flowOk ver ss = true) (hd : doneOk ss done = true) (hl : done.length < ss.length) : runOk ver ss (backSt ss done) done = true := by
  refine runOk_iff.2 ⟨hf, hd, ?_⟩
  rw [stOk_bwd (backSt_cases ss done)]
  simp [hl]
/-- What RunFail gives is a run. -/
theorem fail_ok (h : canB ver ss st done nm = true) : runOk ver ss (failSt ver ss st done nm) (failDone ver ss st done nm) = true := by
  obtain ⟨h1, rfl, h3⟩ := canB_iff.1 h
  obtain ⟨hf, hd, hs⟩ := runOk_iff.1 h1
  rw [failSt_yes h, failDone_yes h]
  have := stOk_len hs
  have := doneOk_len hd
  exact back_ok hf hd (by omega)
theorem fail_st (h : canB ver ss st done nm = true) : failSt ver ss st done nm = 1 ∨ failSt ver ss st done nm = 3 := by
  rw [failSt_yes h]; exact backSt_cases _ _
/-- What RunUndo gives is a run. -/
theorem undo_ok (h : undoB ver ss st done = true) : runOk ver ss (undoSt ver ss st done) (undoDone ver ss st done) = true := by
  obtain ⟨h1, rfl⟩ := undoB_iff.1 h
  obtain ⟨hf, hd, hs⟩ := runOk_iff.1 h1
  rw [undoSt_yes h, undoDone_yes h]
  rw [stOk_one] at hs
  simp only [Bool.and_eq_true, decide_eq_true_eq] at hs
  exact back_ok hf (doneOk_take hd _) (by simp; omega)
theorem next_none (h : runOk ver ss st done = true) : nextOut ver ss st done = [] ↔ st = 2 ∨ st = 3 := by
  obtain ⟨hf, hd, hs⟩ := runOk_iff.1 h
  by_cases h0 : st = 0
  · subst h0
    rw [nextOut_zero h]
    have := ready_some hf hd (stOk_len hs)
    simp [this]
  · by_cases h1 : st = 1
    · subst h1
      rw [nextOut_one h]
      simp
    · rw [nextOut_end h h0 h1]
      simp only [true_iff]
      by_cases h2 : st = 2
      · exact .inl h2
      · by_cases h3 : st = 3
        · exact .inr h3
        · rw [stOk_other ⟨h0, h1, h2, h3⟩] at hs; cases hs
theorem st_cases (h : runOk ver ss st done = true) : st = 0 ∨ st = 1 ∨ st = 2 ∨ st = 3 := by
  obtain ⟨_, _, hs⟩ := runOk_iff.1 h
  by_cases h0 : st = 0
  · exact .inl h0
  · by_cases h1 : st = 1
    · exact .inr (.inl h1)
    · by_cases h2 : st = 2
      · exact .inr (.inr (.inl h2))
      · by_cases h3 : st = 3
        · exact .inr (.inr (.inr h3))
        · rw [stOk_other ⟨h0, h1, h2, h3⟩] at hs; cases hs
/-- The last step done, twice. -/
theorem twice_bad (h0 : 0 < done.length) (st' : Int) : runOk ver ss st' (done ++ [done[done.length - 1]'(by omega)]) = false := by
  refine runOk_noDone (doneOk_bad (i := done.length) (by simp) ?_)
  intro hm
  have := ready_notDone hm
  apply this
  have e1 : (done ++ [done[done.length - 1]'(by omega)])[done.length]'(by simp) = done[done.length - 1]'(by omega) := by simp
  rw [e1]
  simp
/-- A run that has ended goes no more, and the other way round. -/
theorem other_bad (h : runOk ver ss st done = true) : runOk ver ss (if st = 2 then 0 else 2) done = false := by
  obtain ⟨_, _, hs⟩ := runOk_iff.1 h
  refine runOk_noSt ?_
  rcases st_cases h with rfl | rfl | rfl | rfl
  · rw [stOk_zero] at hs
    rw [if_neg (by decide), stOk_two]
    simpa using hs
  · rw [stOk_one] at hs
    simp only [Bool.and_eq_true, decide_eq_true_eq] at hs
    rw [if_neg (by decide), stOk_two]
    simp; omega
  · rw [stOk_two] at hs
    rw [if_pos rfl, stOk_zero]
    simpa using hs
  · rw [stOk_three] at hs
    simp only [Bool.and_eq_true, decide_eq_true_eq] at hs
    rw [if_neg (by decide), stOk_two]
    simp; omega
/-- What can be done is next; what was done is not. -/
theorem do_next (h : canB ver ss st done nm = true) : nm ∈ nextOut ver ss st done ∧ nm ∉ nextOut ver ss (doSt ver ss st done nm) (doDone ver ss st done nm) := by
  obtain ⟨h1, rfl, h3⟩ := canB_iff.1 h
  have h4 := do_ok h
  constructor
  · rw [nextOut_zero h1]; exact h3
  · rcases forthSt_cases ss (done ++ [nm]) with e | e
    · have e2 : doSt ver ss 0 done nm = 0 := by rw [doSt_yes h, e]
      rw [e2] at h4 ⊢
      rw [nextOut_zero h4, doDone_yes h]
      exact fun hm => ready_notDone hm (by simp)
    · have e2 : doSt ver ss 0 done nm = 2 := by rw [doSt_yes h, e]
      rw [e2] at h4 ⊢
      rw [nextOut_end h4 (by decide) (by decide)]
      simp
/-- Who fails can be done; who has failed can not. -/
theorem fail_do (h : canB ver ss st done nm = true) : canB ver ss (failSt ver ss st done nm) (failDone ver ss st done nm) nm = false := by
  refine canB_noSt ?_ _
  rcases fail_st h with e | e <;> omega
/-- It does not matter who fails. -/
theorem fail_any (h : canB ver ss st done nm = true) {n : ByteArray} (hn : n ∈ nextOut ver ss st done) : canB ver ss st done n = true ∧ failSt ver ss st done n = failSt ver ss st done nm ∧ failDone ver ss st done n = failDone ver ss st done nm := by
  obtain ⟨h1, rfl, h3⟩ := canB_iff.1 h
  rw [nextOut_zero h1] at hn
  have h2 : canB ver ss 0 done n = true := canB_iff.2 ⟨h1, rfl, hn⟩
  exact ⟨h2, by rw [failSt_yes h2, failSt_yes h], by rw [failDone_yes h2, failDone_yes h]⟩
theorem next_len (ver st : Int) (ss : List St) (done : List ByteArray) : (nextOut ver ss st done).length ≤ ss.length + 1 := by
  unfold nextOut
  have := ready_length ss done
  split
  · split
    · omega
    · split <;> simp
  · simp
theorem do_len (ver st : Int) (ss : List St) (done : List ByteArray) (nm : ByteArray) : (doDone ver ss st done nm).length ≤ done.length + 1 := by unfold doDone; split <;> simp
theorem fail_len (ver st : Int) (ss : List St) (done : List ByteArray) (nm : ByteArray) : (failDone ver ss st done nm).length ≤ done.length := by unfold failDone; split <;> simp
theorem undo_len (ver st : Int) (ss : List St) (done : List ByteArray) : (undoDone ver ss st done).length ≤ done.length := by unfold undoDone; split <;> simp <;> omega
theorem next_pos (h : canB ver ss st done nm = true) : 0 < (nextOut ver ss st done).length := List.length_pos_of_mem (do_next h).1
end
end Go.Proofs.Ytdjgpoenlmhonaa
