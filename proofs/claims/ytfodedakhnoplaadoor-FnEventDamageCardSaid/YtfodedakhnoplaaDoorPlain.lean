/- Plain definitions and laws on names and lists of names. No program. No condition. -/
namespace Go.Proofs.YtfodedakhnoplaaDoor
set_option linter.unusedVariables false
set_option maxRecDepth 100000

instance lawfulBytes : LawfulBEq ByteArray where
  eq_of_beq {a b} h := by
    have h' : ByteArray.beq a b = true := h
    unfold ByteArray.beq at h'
    cases a; cases b
    simpa using h'
  rfl {a} := by
    show ByteArray.beq _ _ = true
    unfold ByteArray.beq
    simp

def isLow (c : UInt8) : Bool := decide (97 ≤ c.toNat) && decide (c.toNat ≤ 122)
def allLow (s : ByteArray) : Bool := s.data.toList.all isLow
def nameOk (s : ByteArray) : Bool := decide (1 ≤ s.size) && decide (s.size ≤ 5) && allLow s
theorem size_toList (s : ByteArray) : s.data.toList.length = s.size := Array.length_toList
theorem nameOk_len {s : ByteArray} (h : s.size < 1 ∨ 5 < s.size) : nameOk s = false := by
  unfold nameOk
  rcases h with h | h
  · have : ¬ 1 ≤ s.size := by omega
    simp [this]
  · have : ¬ s.size ≤ 5 := by omega
    simp [this]
theorem allLow_bad {s : ByteArray} {k : Nat} (hk : k < s.size) (h : s[k].toNat < 97 ∨ 122 < s[k].toNat) : allLow s = false := by
  unfold allLow
  rw [List.all_eq_false]
  refine ⟨s[k], ?_, ?_⟩
  · have : s[k] = s.data[k] := rfl
    rw [this]; simp
  · unfold isLow
    rcases h with h | h
    · have : ¬ 97 ≤ s[k].toNat := by omega
      simp [this]
    · have : ¬ s[k].toNat ≤ 122 := by omega
      simp [this]
theorem nameOk_bad {s : ByteArray} {k : Nat} (hk : k < s.size) (h : s[k].toNat < 97 ∨ 122 < s[k].toNat) : nameOk s = false := by
  unfold nameOk; rw [allLow_bad hk h]; simp
theorem isLow_of {c : UInt8} (h : 97 ≤ c.toNat ∧ c.toNat ≤ 122) : isLow c = true := by unfold isLow; simp [h.1, h.2]
theorem allLow_all {s : ByteArray} (h : ∀ j (hj : j < s.size), isLow s[j] = true) : allLow s = true := by
  unfold allLow
  rw [List.all_eq_true]
  intro c hc
  obtain ⟨j, hj, rfl⟩ := List.getElem_of_mem hc
  exact h j (by simpa [size_toList] using hj)
theorem nameOk_all {s : ByteArray} (h1 : 1 ≤ s.size) (h5 : s.size ≤ 5) (h : ∀ j (hj : j < s.size), isLow s[j] = true) : nameOk s = true := by
  unfold nameOk
  simp [h1, h5, allLow_all h]
theorem nameOk_size {s : ByteArray} (h : nameOk s = true) : 1 ≤ s.size ∧ s.size ≤ 5 := by
  unfold nameOk at h
  simp only [Bool.and_eq_true, decide_eq_true_eq] at h
  exact h.1

theorem toList_append (a b : ByteArray) : (a ++ b).data.toList = a.data.toList ++ b.data.toList := by
  simp [ByteArray.data_append]
theorem nameOk_low {s : ByteArray} (h : nameOk s = true) : allLow s = true := by
  unfold nameOk at h
  simp only [Bool.and_eq_true] at h
  exact h.2
theorem nameOk_blank (s : ByteArray) : nameOk (s ++ ⟨#[32]⟩) = false := by
  have : allLow (s ++ ⟨#[32]⟩) = false := by
    unfold allLow
    rw [toList_append, List.all_append]
    simp [isLow]
  unfold nameOk
  rw [this]; simp
theorem nameOk_long {s : ByteArray} (h : 1 ≤ s.size) : nameOk (s ++ ⟨#[97, 97, 97, 97, 97]⟩) = false := by
  apply nameOk_len
  right
  have : (⟨#[97, 97, 97, 97, 97]⟩ : ByteArray).size = 5 := rfl
  rw [ByteArray.size_append, this]
  omega
theorem nameOk_first {s : ByteArray} (h : nameOk s = true) : nameOk (s.extract 0 1) = true := by
  have hl := nameOk_size h
  have ha := nameOk_low h
  have hz : (s.extract 0 1).size = 1 := by rw [ByteArray.size_extract]; omega
  refine nameOk_all (by omega) (by omega) fun j hj => ?_
  unfold allLow at ha
  rw [List.all_eq_true] at ha
  refine ha _ ?_
  rw [ByteArray.getElem_extract]
  exact Array.mem_toList_iff.2 (Array.getElem_mem _)

/-- The place of a name, or -1. -/
def place (xs : List ByteArray) (s : ByteArray) : Int := if xs.idxOf s < xs.length then (xs.idxOf s : Int) else -1
theorem place_at {xs : List ByteArray} {s : ByteArray} {k : Nat} (hk : k < xs.length) (h : xs[k] = s) (hb : ∀ j (hj : j < xs.length), j < k → xs[j] ≠ s) : place xs s = k := by
  have : xs.idxOf s = k := by
    rw [List.idxOf, List.findIdx_eq hk]
    refine ⟨by simp [h], fun j hj => by have := hb j (by omega) hj; simpa using this⟩
  unfold place
  rw [this, if_pos hk]
theorem place_none {xs : List ByteArray} {s : ByteArray} (hb : ∀ j (hj : j < xs.length), xs[j] ≠ s) : place xs s = -1 := by
  have h : s ∉ xs := by
    intro hm
    obtain ⟨j, hj, e⟩ := List.getElem_of_mem hm
    exact hb j hj e
  unfold place
  rw [List.idxOf_eq_length h, if_neg (by omega)]
theorem place_mem {xs : List ByteArray} {s : ByteArray} (h : s ∈ xs) : 0 ≤ place xs s := by
  have := List.idxOf_lt_length_iff.2 h
  unfold place
  rw [if_pos this]
  omega
theorem place_notMem {xs : List ByteArray} {s : ByteArray} (h : s ∉ xs) : place xs s = -1 :=
  place_none fun _ hj e => h (e ▸ List.getElem_mem hj)
theorem place_lt (xs : List ByteArray) (s : ByteArray) : place xs s < 0 ∨ (0 ≤ place xs s ∧ ∃ _ : (place xs s).toNat < xs.length, xs[(place xs s).toNat] = s ∧ ∀ j (_ : j < xs.length), j < (place xs s).toNat → xs[j] ≠ s) := by
  by_cases hm : s ∈ xs
  · have hl := List.idxOf_lt_length_iff.2 hm
    refine .inr ⟨place_mem hm, ?_⟩
    have e : (place xs s).toNat = xs.idxOf s := by unfold place; rw [if_pos hl]; omega
    rw [e]
    refine ⟨hl, ?_, ?_⟩
    · simp
    · intro j hj hlt
      have := List.not_of_lt_findIdx (p := (· == s)) (xs := xs) (i := j) (by simpa [List.idxOf] using hlt)
      simpa using this
  · exact .inl (by rw [place_notMem hm]; omega)
theorem place_bounds (xs : List ByteArray) (s : ByteArray) : -1 ≤ place xs s ∧ place xs s < xs.length ∨ (place xs s = -1) := by
  unfold place
  split
  · left; omega
  · right; rfl

/-- A list has a name. -/
def has (xs : List ByteArray) (s : ByteArray) : Bool := decide (s ∈ xs)
theorem has_yes {xs : List ByteArray} {s : ByteArray} (h : s ∈ xs) : has xs s = true := decide_eq_true h
theorem has_no {xs : List ByteArray} {s : ByteArray} (h : s ∉ xs) : has xs s = false := decide_eq_false h
theorem has_mem {xs : List ByteArray} {s : ByteArray} (h : has xs s = true) : s ∈ xs := of_decide_eq_true h
theorem has_notMem {xs : List ByteArray} {s : ByteArray} (h : has xs s = false) : s ∉ xs := of_decide_eq_false h
theorem has_place (xs : List ByteArray) (s : ByteArray) : has xs s = decide (0 ≤ place xs s) := by
  by_cases h : s ∈ xs
  · rw [has_yes h, decide_eq_true (place_mem h)]
  · rw [has_no h, decide_eq_false (by rw [place_notMem h]; omega)]

/-- A list has all names of another one. -/
def haveAll (xs ys : List ByteArray) : Bool := ys.all fun y => has xs y
theorem haveAll_bad {xs ys : List ByteArray} {k : Nat} (hk : k < ys.length) (h : ys[k] ∉ xs) : haveAll xs ys = false := by
  unfold haveAll
  rw [List.all_eq_false]
  exact ⟨ys[k], List.getElem_mem hk, by simp [has_no h]⟩
theorem haveAll_all {xs ys : List ByteArray} (h : ∀ j (hj : j < ys.length), ys[j] ∈ xs) : haveAll xs ys = true := by
  unfold haveAll
  rw [List.all_eq_true]
  intro y hy
  obtain ⟨j, hj, rfl⟩ := List.getElem_of_mem hy
  exact has_yes (h j hj)
theorem haveAll_iff {xs ys : List ByteArray} : haveAll xs ys = true ↔ ∀ y ∈ ys, y ∈ xs := by
  unfold haveAll
  simp [List.all_eq_true, has]
/-! Lists of cells that are filled from the front. -/
theorem cut2 {α : Type} {vs : List α} {m : Nat} (h : m + 2 ≤ vs.length) : ∃ x y r, vs = vs.take m ++ x :: y :: r := by
  refine ⟨vs[m], vs[m + 1], vs.drop (m + 2), ?_⟩
  rw [← List.drop_eq_getElem_cons, ← List.drop_eq_getElem_cons, List.take_append_drop]
theorem set2_take {α : Type} {vs done : List α} {m : Nat} {a b : α} (hd : vs.take m = done) (h : m + 2 ≤ vs.length) : ((vs.set m a).set (m + 1) b).take (m + 2) = done ++ [a, b] := by
  obtain ⟨x, y, r, e⟩ := cut2 h
  rw [hd] at e
  have hl : done.length = m := by rw [← hd, List.length_take]; omega
  subst hl
  rw [e, List.set_append_right _ _ (Nat.le_refl _), List.set_append_right _ _ (by omega), List.take_append]
  simp [List.take_of_length_le]
theorem set3_take {α : Type} {vs done : List α} {m : Nat} {a b c : α} (hd : vs.take m = done) (h : m + 3 ≤ vs.length) : (((vs.set m a).set (m + 1) b).set (m + 2) c).take (m + 3) = done ++ [a, b, c] := by
  obtain ⟨x, y, r, e⟩ := cut2 (vs := vs) (m := m) (by omega)
  rw [hd] at e
  have hl : done.length = m := by rw [← hd, List.length_take]; omega
  subst hl
  have hr : 0 < r.length := by have := congrArg List.length e; simp at this; omega
  obtain ⟨z, t, rfl⟩ : ∃ z t, r = z :: t := by cases r with
    | nil => simp at hr
    | cons z t => exact ⟨_, _, rfl⟩
  rw [e, List.set_append_right _ _ (Nat.le_refl _), List.set_append_right _ _ (by omega), List.set_append_right _ _ (by omega), List.take_append]
  simp [List.take_of_length_le]

end Go.Proofs.YtfodedakhnoplaaDoor
