/- Contracts of the reference's functions on runs: l3Order, l3Left, RunValid. Condition: at most 2000000 steps. -/
import Derived.Test.YtdjgpoenlmhonaaRuns
import Derived.Test.YtdjgpoenlmhonaaRunOuts
import Derived.Test.YtdjgpoenlmhonaaFlowFns
import Derived.Deep.QuietTactic
import Derived.BigQuiet
namespace Go.Proofs.Ytdjgpoenlmhonaa
set_option linter.unusedVariables false
set_option maxRecDepth 100000
open Go.RowKit

theorem quietly {P : Program} {f : FuncId} {args : Array Value} {w : World} {n : Nat} {v u : Value}
    (h : Calls P f args (w.drewN n) fun e w' => e = .returned v ∧ w.drewN n = w') (e : v = u) : Calls P f args (w.drewN n) fun e w'' => e = .returned u ∧ ∃ m, w'' = w.drewN m :=
  h.mono fun _ _ ⟨he, hm⟩ => ⟨by rw [he, e], n, hm.symm⟩
theorem l1Have_n (A A' : Option Addr) (c c' n m : Nat) (xs ys : List ByteArray) (w : World) (B B' : Nat) (hn : Hid (xs.length = n)) (hm : Hid (ys.length = m)) (h : Strs w B A c xs) (h' : Strs w B' A' c' ys) :
    Calls Try.prog 36 #[.slice A n c, .slice A' m c'] w fun e w' => e = .returned (.bool (haveAll xs ys)) ∧ w = w' := by
  obtain rfl := hn.out
  obtain rfl := hm.out
  exact l1Have_any A A' c c' xs ys w B B' h h'
theorem bool_eq {a b : Bool} (h : a = b) : Value.bool a = .bool b := by rw [h]
theorem int_eq {a b : Int} (h : a = b) : Value.int .i64 a = .int .i64 b := by rw [h]

theorem place_first {xs : List ByteArray} {s : ByteArray} {k : Nat} (hk : k < xs.length) (h : xs[k] = s) : 0 ≤ place xs s ∧ place xs s ≤ k := by
  have hm : s ∈ xs := by rw [← h]; exact List.getElem_mem hk
  refine ⟨place_mem hm, ?_⟩
  rcases place_lt xs s with hneg | ⟨_, hl, _, hb⟩
  · omega
  · refine Classical.byContradiction fun hc => ?_
    exact hb k hk (by omega) h
theorem place_take {xs : List ByteArray} {s : ByteArray} {k : Nat} (h : s ∈ xs.take k) : place xs s < k := by
  obtain ⟨j, hj, e⟩ := List.mem_take_iff_getElem.1 h
  have := (place_first (xs := xs) (k := j) (by omega) e).2
  omega
theorem place_fresh {xs : List ByteArray} {k : Nat} (hk : k < xs.length) (h : xs[k] ∉ xs.take k) : place xs xs[k] = k := by
  refine place_at hk rfl fun j hj hlt e => h ?_
  exact List.mem_take_iff_getElem.2 ⟨j, by omega, e⟩

def goodAt (ss : List St) (done : List ByteArray) (i : Nat) : Prop := ∀ h : i < done.length, done[i] ∈ names ss ∧ done[i] ∉ done.take i ∧ haveAt ss (done.take i) done[i] = true
theorem specOk_bad {ss : List St} {done : List ByteArray} {i : Nat} (h : ¬ goodAt ss done i) : specOk ss done = false := by
  unfold specOk
  exact decide_eq_false fun hall => h (hall i)
theorem specOk_all {ss : List St} {done : List ByteArray} (h : ∀ i, i < done.length → goodAt ss done i) : specOk ss done = true := by
  unfold specOk
  exact decide_eq_true fun i hi => h i hi hi

/-- How many steps stay if all are undone from the end. -/
def leftN (ss : List St) (done : List ByteArray) : Nat := (done.reverse.dropWhile fun n => undoAt ss n).length
theorem leftN_nil (ss : List St) : leftN ss [] = 0 := rfl
theorem leftN_snoc (ss : List St) (done : List ByteArray) (n : ByteArray) : leftN ss (done ++ [n]) = if undoAt ss n then leftN ss done else done.length + 1 := by
  unfold leftN
  rw [List.reverse_append]
  simp only [List.reverse_cons, List.reverse_nil, List.nil_append, List.cons_append, List.dropWhile_cons]
  split <;> simp
theorem leftN_le (ss : List St) (done : List ByteArray) : leftN ss done ≤ done.length := by
  unfold leftN
  have := (List.dropWhile_sublist (fun n => undoAt ss n) (l := done.reverse)).length_le
  simpa using this
theorem leftN_back (ss : List St) (done : List ByteArray) : (leftN ss done < done.length ∧ backSt ss done = 1) ∨ (leftN ss done = done.length ∧ backSt ss done = 3) := by
  rcases List.eq_nil_or_concat done with rfl | ⟨init, n, rfl⟩
  · exact .inr ⟨rfl, rfl⟩
  · rw [List.concat_eq_append, leftN_snoc]
    have hb : backSt ss (init ++ [n]) = if undoAt ss n then 1 else 3 := by unfold backSt; simp
    rw [hb]
    have := leftN_le ss init
    by_cases hu : undoAt ss n = true
    · left; simp [hu]; omega
    · right; simp [hu]
theorem take_last {done : List ByteArray} {k : Nat} (hk : k < done.length) : done.take (k + 1) = done.take k ++ [done[k]] := List.take_succ_eq_append_getElem hk

theorem runOk_zero {ver : Int} {ss : List St} {done : List ByteArray} (h1 : flowOk ver ss = true) (h2 : doneOk ss done = true) : runOk ver ss 0 done = decide (done.length < ss.length) := by
  rw [runOk_st h1 h2, stOk_zero]
  have := doneOk_len h2
  by_cases h : done.length = ss.length
  · simp [h]
  · simp [h]; omega
theorem runOk_two {ver : Int} {ss : List St} {done : List ByteArray} (h1 : flowOk ver ss = true) (h2 : doneOk ss done = true) : runOk ver ss 2 done = decide (done.length = ss.length) := by
  rw [runOk_st h1 h2, stOk_two]
theorem runOk_one {ver : Int} {ss : List St} {done : List ByteArray} (h1 : flowOk ver ss = true) (h2 : doneOk ss done = true) : runOk ver ss 1 done = (decide (done.length < ss.length) && decide (leftN ss done < done.length)) := by
  rw [runOk_st h1 h2, stOk_one]
  congr 1
  rcases leftN_back ss done with ⟨a, b⟩ | ⟨a, b⟩
  · simp [a, b]
  · simp [a, b]
theorem runOk_three {ver : Int} {ss : List St} {done : List ByteArray} (h1 : flowOk ver ss = true) (h2 : doneOk ss done = true) : runOk ver ss 3 done = (decide (done.length < ss.length) && decide (leftN ss done = done.length)) := by
  rw [runOk_st h1 h2, stOk_three]
  congr 1
  rcases leftN_back ss done with ⟨a, b⟩ | ⟨a, b⟩
  · have : ¬ leftN ss done = done.length := by omega
    simp [this, b]
  · simp [a, b]

end Go.Proofs.Ytdjgpoenlmhonaa
