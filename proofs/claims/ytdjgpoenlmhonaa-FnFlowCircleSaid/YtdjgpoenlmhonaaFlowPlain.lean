/- Plain definitions and laws on flows: what is ready, the order, when a flow is valid. No program. No condition. -/
import Derived.Test.YtdjgpoenlmhonaaOrder
namespace Go.Proofs.Ytdjgpoenlmhonaa
set_option linter.unusedVariables false
set_option maxRecDepth 100000
open Go

/-- A step as data. -/
structure St where
  name : ByteArray
  after : List ByteArray
  undo : Bool

def names (ss : List St) : List ByteArray := ss.map (·.name)

/-- The steps that are not done, but come after done ones alone. -/
def isReady (done : List ByteArray) (s : St) : Bool := !has done s.name && haveAll done s.after
def ready (ss : List St) (done : List ByteArray) : List ByteArray := names (ss.filter (isReady done))
theorem ready_nil (done : List ByteArray) : ready [] done = [] := rfl
theorem ready_take_succ {ss : List St} {k : Nat} (h : k < ss.length) (done : List ByteArray) :
    ready (ss.take (k + 1)) done = ready (ss.take k) done ++ (if isReady done ss[k] then [ss[k].name] else []) := by
  unfold ready names
  rw [List.take_succ_eq_append_getElem h, List.filter_append, List.map_append]
  congr 1
  by_cases hr : isReady done ss[k] = true
  · simp [hr]
  · simp [hr]
theorem mem_ready {ss : List St} {done : List ByteArray} {n : ByteArray} : n ∈ ready ss done ↔ ∃ s ∈ ss, isReady done s = true ∧ s.name = n := by
  unfold ready names
  simp only [List.mem_map, List.mem_filter]
  constructor
  · rintro ⟨s, ⟨h1, h2⟩, h3⟩; exact ⟨s, h1, h2, h3⟩
  · rintro ⟨s, h1, h2, h3⟩; exact ⟨s, ⟨h1, h2⟩, h3⟩
theorem ready_notDone {ss : List St} {done : List ByteArray} {n : ByteArray} (h : n ∈ ready ss done) : n ∉ done := by
  obtain ⟨s, _, hr, rfl⟩ := mem_ready.1 h
  unfold isReady at hr
  simp only [Bool.and_eq_true, Bool.not_eq_true'] at hr
  exact has_notMem hr.1
theorem ready_sub {ss : List St} {done : List ByteArray} {n : ByteArray} (h : n ∈ ready ss done) : n ∈ names ss := by
  obtain ⟨s, hs, _, rfl⟩ := mem_ready.1 h
  exact List.mem_map.2 ⟨s, hs, rfl⟩
theorem ready_length (ss : List St) (done : List ByteArray) : (ready ss done).length ≤ ss.length := by
  unfold ready names
  rw [List.length_map]
  exact List.length_filter_le _ _

/-- So many steps of the order as k rounds give. -/
def ordN (ss : List St) : Nat → List ByteArray
  | 0 => []
  | k + 1 => match ready ss (ordN ss k) with
    | [] => ordN ss k
    | n :: _ => ordN ss k ++ [n]
def ord (ss : List St) : List ByteArray := ordN ss ss.length
theorem ordN_stop {ss : List St} {k : Nat} (h : ready ss (ordN ss k) = []) : ordN ss (k + 1) = ordN ss k := by
  simp only [ordN]; rw [h]
theorem ordN_next {ss : List St} {k : Nat} {n : ByteArray} {r : List ByteArray} (h : ready ss (ordN ss k) = n :: r) : ordN ss (k + 1) = ordN ss k ++ [n] := by
  simp only [ordN]; rw [h]
theorem ordN_fix {ss : List St} {k : Nat} (h : ready ss (ordN ss k) = []) (j : Nat) : ordN ss (k + j) = ordN ss k := by
  induction j with
  | zero => rfl
  | succ j ih =>
    rw [show k + (j + 1) = (k + j) + 1 from by omega, ordN_stop (by rw [ih]; exact h), ih]
theorem ordN_nodup (ss : List St) (k : Nat) : (ordN ss k).Nodup := by
  induction k with
  | zero => simp [ordN]
  | succ k ih =>
    cases h : ready ss (ordN ss k) with
    | nil => rw [ordN_stop h]; exact ih
    | cons n r =>
      rw [ordN_next h]
      have hn : n ∉ ordN ss k := ready_notDone (ss := ss) (by rw [h]; simp)
      rw [List.nodup_append]
      refine ⟨ih, by simp, fun a ha b hb => ?_⟩
      simp at hb; subst hb
      rintro rfl; exact hn ha
theorem ordN_sub (ss : List St) (k : Nat) : ∀ n ∈ ordN ss k, n ∈ names ss := by
  induction k with
  | zero => simp [ordN]
  | succ k ih =>
    cases h : ready ss (ordN ss k) with
    | nil => rw [ordN_stop h]; exact ih
    | cons m r =>
      rw [ordN_next h]
      intro n hn
      rcases List.mem_append.1 hn with hn | hn
      · exact ih n hn
      · simp at hn; subst hn; exact ready_sub (by rw [h]; simp)
theorem nodup_sub_length : ∀ {xs ys : List ByteArray}, xs.Nodup → (∀ x ∈ xs, x ∈ ys) → xs.length ≤ ys.length
  | [], _, _, _ => by simp
  | x :: r, ys, hn, hs => by
    have hx := hs x (by simp)
    have hn' := List.nodup_cons.1 hn
    have h1 := nodup_sub_length (xs := r) (ys := ys.erase x) hn'.2 (fun y hy => by
      have hne : y ≠ x := fun e => hn'.1 (e ▸ hy)
      exact (List.mem_erase_of_ne hne).2 (hs y (by simp [hy])))
    have h2 := List.length_erase_of_mem hx
    have h3 : 0 < ys.length := List.length_pos_of_mem hx
    simp only [List.length_cons]
    omega
theorem ordN_length_le (ss : List St) (k : Nat) : (ordN ss k).length ≤ ss.length := by
  have := nodup_sub_length (ordN_nodup ss k) (ordN_sub ss k)
  simpa [names] using this
theorem ordN_len_k (ss : List St) (k : Nat) : (ordN ss k).length ≤ k := by
  induction k with
  | zero => simp [ordN]
  | succ k ih =>
    cases h : ready ss (ordN ss k) with
    | nil => rw [ordN_stop h]; omega
    | cons n r => rw [ordN_next h]; simp; omega
/-- Where something is ready behind k rounds that have each brought a step, k is below the number of steps. -/
theorem ordN_more {ss : List St} {k : Nat} (hk : (ordN ss k).length = k) {n : ByteArray} {r : List ByteArray} (h : ready ss (ordN ss k) = n :: r) : k < ss.length := by
  have := ordN_length_le ss (k + 1)
  rw [ordN_next h] at this
  simp at this
  omega
theorem ord_of_stop {ss : List St} {k : Nat} (hk : k ≤ ss.length) (h : ready ss (ordN ss k) = []) : ord ss = ordN ss k := by
  have := ordN_fix h (ss.length - k)
  rw [show k + (ss.length - k) = ss.length from by omega] at this
  exact this

/-- A flow is valid. -/
def stepOk2 (ss : List St) (s : St) : Bool := stepOk s.name s.after && haveAll (names ss) s.after
def flowOk (ver : Int) (ss : List St) : Bool :=
  decide (1 ≤ ver) && decide (ver ≤ 99) && decide (1 ≤ ss.length) && decide (ss.length ≤ 8) && asc (names ss) && ss.all (stepOk2 ss) && decide ((ord ss).length = ss.length)
theorem flowOk_iff {ver : Int} {ss : List St} : flowOk ver ss = true ↔ 1 ≤ ver ∧ ver ≤ 99 ∧ 1 ≤ ss.length ∧ ss.length ≤ 8 ∧ asc (names ss) = true ∧ (∀ s ∈ ss, stepOk2 ss s = true) ∧ (ord ss).length = ss.length := by
  unfold flowOk
  simp only [Bool.and_eq_true, decide_eq_true_eq, List.all_eq_true]
  constructor
  · rintro ⟨⟨⟨⟨⟨⟨h1, h2⟩, h3⟩, h4⟩, h5⟩, h6⟩, h7⟩; exact ⟨h1, h2, h3, h4, h5, h6, h7⟩
  · rintro ⟨h1, h2, h3, h4, h5, h6, h7⟩; exact ⟨⟨⟨⟨⟨⟨h1, h2⟩, h3⟩, h4⟩, h5⟩, h6⟩, h7⟩
end Go.Proofs.Ytdjgpoenlmhonaa
