/- Plain definitions and laws on runs. No program. No condition. -/
import Derived.Test.YtdjgpoenlmhonaaOrderPlain
namespace Go.Proofs.Ytdjgpoenlmhonaa
set_option linter.unusedVariables false
set_option maxRecDepth 100000

/-- Whether the step of a name can be undone. -/
def undoAt (ss : List St) (n : ByteArray) : Bool := match ss[(place (names ss) n).toNat]? with
  | some s => s.undo
  | none => false
/-- The state of a run of which a step has failed. -/
def backSt (ss : List St) (done : List ByteArray) : Int := match done.getLast? with
  | none => 3
  | some n => if undoAt ss n then 1 else 3
/-- The state of a run of which no step has failed. -/
def forthSt (ss : List St) (done : List ByteArray) : Int := if done.length = ss.length then 2 else 0
/-- Each name was ready when it was done. -/
def doneOk (ss : List St) (done : List ByteArray) : Bool := decide (∀ i, (h : i < done.length) → done[i] ∈ ready ss (done.take i))
def stOk (st : Int) (ss : List St) (done : List ByteArray) : Bool :=
  (decide (st = 0) || decide (st = 2)) && decide (st = forthSt ss done) || (decide (st = 1) || decide (st = 3)) && decide (done.length < ss.length) && decide (st = backSt ss done)
def runOk (ver : Int) (ss : List St) (st : Int) (done : List ByteArray) : Bool := flowOk ver ss && doneOk ss done && stOk st ss done

theorem doneOk_iff {ss : List St} {done : List ByteArray} : doneOk ss done = true ↔ ∀ i, (h : i < done.length) → done[i] ∈ ready ss (done.take i) := by
  unfold doneOk; exact decide_eq_true_iff
theorem doneOk_bad {ss : List St} {done : List ByteArray} {i : Nat} (hi : i < done.length) (h : done[i] ∉ ready ss (done.take i)) : doneOk ss done = false := by
  cases hd : doneOk ss done
  · rfl
  · exact absurd (doneOk_iff.1 hd i hi) h
theorem doneOk_sub {ss : List St} {done : List ByteArray} (h : doneOk ss done = true) : ∀ n ∈ done, n ∈ names ss := by
  intro n hn
  obtain ⟨i, hi, rfl⟩ := List.getElem_of_mem hn
  exact ready_sub (doneOk_iff.1 h i hi)
theorem doneOk_nodup {ss : List St} {done : List ByteArray} (h : doneOk ss done = true) : done.Nodup := by
  rw [List.nodup_iff_pairwise_ne, List.pairwise_iff_getElem]
  intro i j hi hj hij e
  have := ready_notDone (doneOk_iff.1 h j hj)
  apply this
  rw [← e]
  exact List.mem_take_iff_getElem.2 ⟨i, by omega, rfl⟩
theorem doneOk_len {ss : List St} {done : List ByteArray} (h : doneOk ss done = true) : done.length ≤ ss.length := by
  have := nodup_sub_length (doneOk_nodup h) (doneOk_sub h)
  simpa [names] using this
theorem doneOk_take {ss : List St} {done : List ByteArray} (h : doneOk ss done = true) (k : Nat) : doneOk ss (done.take k) = true := by
  refine doneOk_iff.2 fun i hi => ?_
  have hi2 : i < done.length := by simp at hi; omega
  have hik : i < k := by simp at hi; omega
  have := doneOk_iff.1 h i hi2
  rw [List.getElem_take, List.take_take, Nat.min_eq_left (by omega)]
  exact this
theorem doneOk_snoc {ss : List St} {done : List ByteArray} {n : ByteArray} (h : doneOk ss done = true) (hn : n ∈ ready ss done) : doneOk ss (done ++ [n]) = true := by
  refine doneOk_iff.2 fun i hi => ?_
  by_cases hl : i < done.length
  · rw [List.getElem_append_left hl, List.take_append_of_le_length (by omega)]
    exact doneOk_iff.1 h i hl
  · obtain rfl : i = done.length := by simp at hi; omega
    simpa using hn
theorem backSt_cases (ss : List St) (done : List ByteArray) : backSt ss done = 1 ∨ backSt ss done = 3 := by
  unfold backSt
  split
  · exact .inr rfl
  · split
    · exact .inl rfl
    · exact .inr rfl
theorem forthSt_cases (ss : List St) (done : List ByteArray) : forthSt ss done = 0 ∨ forthSt ss done = 2 := by
  unfold forthSt
  split
  · exact .inr rfl
  · exact .inl rfl

/-- Whether the step of a name comes after some names alone. -/
def haveAt (ss : List St) (xs : List ByteArray) (n : ByteArray) : Bool := match ss[(place (names ss) n).toNat]? with
  | some s => haveAll xs s.after
  | none => false
/-- The reference's test of an order. -/
def specOk (ss : List St) (done : List ByteArray) : Bool :=
  decide (∀ i, (h : i < done.length) → done[i] ∈ names ss ∧ done[i] ∉ done.take i ∧ haveAt ss (done.take i) done[i] = true)
theorem place_get {ss : List St} {n : ByteArray} (h : n ∈ names ss) : ∃ s, ss[(place (names ss) n).toNat]? = some s ∧ s.name = n ∧ s ∈ ss := by
  have hp := place_mem h
  rcases place_lt (names ss) n with hneg | ⟨_, hk, he, _⟩
  · omega
  · have hk' : (place (names ss) n).toNat < ss.length := by simpa [names] using hk
    exact ⟨ss[(place (names ss) n).toNat], List.getElem?_eq_getElem hk', by simpa [names] using he, List.getElem_mem hk'⟩
theorem specOk_eq {ss : List St} {done : List ByteArray} (hasc : asc (names ss) = true) : specOk ss done = doneOk ss done := by
  rw [Bool.eq_iff_iff]
  unfold specOk doneOk
  rw [decide_eq_true_iff, decide_eq_true_iff]
  refine forall_congr' fun i => forall_congr' fun hi => ?_
  constructor
  · rintro ⟨hm, hn, hh⟩
    obtain ⟨t, ht, htn, htm⟩ := place_get hm
    unfold haveAt at hh
    rw [ht] at hh
    simp only at hh
    refine mem_ready.2 ⟨t, htm, ?_, htn⟩
    unfold isReady
    rw [htn, has_no hn, hh]
    rfl
  · intro h
    obtain ⟨s, hs, hr, hn⟩ := mem_ready.1 h
    have hm := ready_sub h
    refine ⟨hm, ready_notDone h, ?_⟩
    obtain ⟨t, ht, htn, htm⟩ := place_get hm
    obtain rfl := names_inj hasc htm hs (htn.trans hn.symm)
    unfold isReady at hr
    simp only [Bool.and_eq_true] at hr
    unfold haveAt
    rw [ht]
    exact hr.2
end Go.Proofs.Ytdjgpoenlmhonaa
