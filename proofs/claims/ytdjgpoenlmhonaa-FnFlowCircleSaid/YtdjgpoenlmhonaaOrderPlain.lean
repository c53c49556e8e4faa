/- Plain laws on the order of a valid flow. No program. No condition. -/
import Derived.Test.YtdjgpoenlmhonaaFlowPlain
namespace Go.Proofs.Ytdjgpoenlmhonaa
set_option linter.unusedVariables false
set_option maxRecDepth 100000

theorem ordN_step_le (ss : List St) (k : Nat) : (ordN ss (k + 1)).length ≤ (ordN ss k).length + 1 := by
  cases h : ready ss (ordN ss k) with
  | nil => rw [ordN_stop h]; omega
  | cons n r => rw [ordN_next h]; simp
theorem ordN_add_le (ss : List St) (k j : Nat) : (ordN ss (k + j)).length ≤ (ordN ss k).length + j := by
  induction j with
  | zero => simp
  | succ j ih => have := ordN_step_le ss (k + j); rw [show k + (j + 1) = k + j + 1 from by omega]; omega
theorem ordN_prefix (ss : List St) (k j : Nat) : ∃ r, ordN ss (k + j) = ordN ss k ++ r := by
  induction j with
  | zero => exact ⟨[], by simp⟩
  | succ j ih =>
    obtain ⟨r, hr⟩ := ih
    rw [show k + (j + 1) = k + j + 1 from by omega]
    cases h : ready ss (ordN ss (k + j)) with
    | nil => exact ⟨r, by rw [ordN_stop h, hr]⟩
    | cons n t => exact ⟨r ++ [n], by rw [ordN_next h, hr, List.append_assoc]⟩
section
variable {ss : List St} (h : (ord ss).length = ss.length)
include h
theorem ordN_len {k : Nat} (hk : k ≤ ss.length) : (ordN ss k).length = k := by
  have h1 := ordN_len_k ss k
  have h2 := ordN_add_le ss k (ss.length - k)
  rw [show k + (ss.length - k) = ss.length from by omega] at h2
  unfold ord at h
  omega
theorem ord_take {k : Nat} (hk : k ≤ ss.length) : (ord ss).take k = ordN ss k := by
  obtain ⟨r, hr⟩ := ordN_prefix ss k (ss.length - k)
  rw [show k + (ss.length - k) = ss.length from by omega] at hr
  unfold ord
  rw [hr]
  exact List.take_left' (ordN_len h hk)
theorem ord_head {k : Nat} (hk : k < ss.length) : ∃ r, ready ss ((ord ss).take k) = ((ord ss)[k]'(by omega)) :: r := by
  rw [ord_take h (by omega)]
  cases hr : ready ss (ordN ss k) with
  | nil =>
    have h1 := ordN_stop hr
    have h2 := ordN_len h (k := k + 1) (by omega)
    have h3 := ordN_len h (k := k) (by omega)
    rw [h1] at h2
    omega
  | cons n r =>
    refine ⟨r, ?_⟩
    have h1 := ordN_next hr
    have h2 := ord_take h (k := k + 1) (by omega)
    have h3 := ordN_len h (k := k) (by omega)
    congr 1
    have e : (ord ss)[k]'(by omega) = ((ord ss).take (k + 1))[k]'(by simp; omega) := by rw [List.getElem_take]
    rw [e]
    simp only [h2, h1]
    rw [List.getElem_append_right (by omega)]
    simp [h3]
theorem ord_mem : ∀ s ∈ ss, s.name ∈ ord ss := by
  intro s hs
  refine Classical.byContradiction fun hn => ?_
  have h1 : (s.name :: ord ss).Nodup := List.nodup_cons.2 ⟨hn, ordN_nodup ss _⟩
  have h2 := nodup_sub_length h1 (ys := names ss) (fun x hx => by
    rcases List.mem_cons.1 hx with rfl | hx
    · exact List.mem_map.2 ⟨s, hs, rfl⟩
    · exact ordN_sub ss _ x hx)
  have h3 : (names ss).length = ss.length := by simp [names]
  simp only [List.length_cons] at h2
  omega
theorem ord_ready : ready ss (ord ss) = [] := by
  cases hr : ready ss (ord ss) with
  | nil => rfl
  | cons n r =>
    have h1 : n ∈ ready ss (ord ss) := by rw [hr]; simp
    have h2 := ready_notDone h1
    obtain ⟨s, hs, _, rfl⟩ := mem_ready.1 h1
    exact absurd (ord_mem h s hs) h2
end
theorem asc_ne {xs : List ByteArray} (h : asc xs = true) {i j : Nat} (hi : i < j) (hj : j < xs.length) : xs[i]'(by omega) ≠ xs[j] := by
  intro e
  have := asc_lt h j hj i hi
  rw [e, blt_irrefl] at this
  cases this
theorem names_inj {ss : List St} (h : asc (names ss) = true) {s t : St} (hs : s ∈ ss) (ht : t ∈ ss) (e : s.name = t.name) : s = t := by
  obtain ⟨i, hi, rfl⟩ := List.getElem_of_mem hs
  obtain ⟨j, hj, rfl⟩ := List.getElem_of_mem ht
  have hl : (names ss).length = ss.length := by simp [names]
  rcases Nat.lt_trichotomy i j with hij | rfl | hij
  · exact absurd (by simpa [names] using e) (asc_ne h hij (by omega))
  · rfl
  · exact absurd (by simpa [names] using e.symm) (asc_ne h hij (by omega))
theorem ord_before {ver : Int} {ss : List St} (h : flowOk ver ss = true) {s : St} (hs : s ∈ ss) : 0 ≤ place (ord ss) s.name ∧ (place (ord ss) s.name).toNat < ss.length ∧ haveAll ((ord ss).take (place (ord ss) s.name).toNat) s.after = true := by
  obtain ⟨_, _, _, _, hasc, _, hlen⟩ := flowOk_iff.1 h
  have hm := ord_mem hlen s hs
  have hp := place_mem hm
  rcases place_lt (ord ss) s.name with hneg | ⟨_, hk, he, _⟩
  · omega
  · refine ⟨hp, by omega, ?_⟩
    obtain ⟨r, hr⟩ := ord_head hlen (k := (place (ord ss) s.name).toNat) (by omega)
    have h1 : s.name ∈ ready ss ((ord ss).take (place (ord ss) s.name).toNat) := by rw [hr, he]; simp
    obtain ⟨t, ht, hready, hname⟩ := mem_ready.1 h1
    obtain rfl := names_inj hasc ht hs hname
    unfold isReady at hready
    simp only [Bool.and_eq_true] at hready
    exact hready.2
end Go.Proofs.Ytdjgpoenlmhonaa
