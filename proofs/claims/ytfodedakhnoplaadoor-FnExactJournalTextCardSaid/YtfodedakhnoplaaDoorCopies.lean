/- Contracts of the laws' own functions on lists of names: szStringS, toStringS, eqStringS. Condition: sizes as the laws ask them. -/
import Derived.Test.YtfodedakhnoplaaDoorRows
import Derived.WalkKit
import Derived.WalkSpells
import Derived.WalkLawsBesides
import Derived.Deep.QuietTactic
import Derived.BigQuiet
import Derived.Deep.OwnRows
import Derived.Test.YtfodedakhnoplaaDoorPlain
import Derived.Test.YtfodedakhnoplaaDoorWords
namespace Go.Proofs.YtfodedakhnoplaaDoor
set_option linter.unusedVariables false
set_option maxRecDepth 100000
open Go.RowKit Go.Deep

/-- What the laws count of a list of names. -/
def tot : List ByteArray → Nat
  | [] => 0
  | x :: r => x.size + 1 + tot r
theorem tot_len (xs : List ByteArray) : xs.length ≤ tot xs := by
  induction xs with
  | nil => simp [tot]
  | cons x r ih => simp only [tot, List.length_cons]; omega
theorem tot_mem {xs : List ByteArray} {x : ByteArray} (h : x ∈ xs) : x.size ≤ tot xs := by
  induction xs with
  | nil => cases h
  | cons y r ih =>
    simp only [tot]
    rcases List.mem_cons.1 h with rfl | h
    · omega
    · have := ih h; omega
theorem tot_take_succ {xs : List ByteArray} {k : Nat} (h : k < xs.length) : tot (xs.take (k + 1)) = tot (xs.take k) + xs[k].size + 1 := by
  induction xs generalizing k with
  | nil => simp at h
  | cons x r ih =>
    cases k with
    | zero => simp [tot]
    | succ k =>
      simp only [List.take_succ_cons, tot, List.getElem_cons_succ]
      rw [ih (by simpa using h)]
      omega
theorem tot_take_le (xs : List ByteArray) (k : Nat) : tot (xs.take k) + (xs.length - k) ≤ tot xs := by
  induction xs generalizing k with
  | nil => simp [tot]
  | cons x r ih =>
    cases k with
    | zero => simp only [List.take_zero, tot, List.length_cons]; have := tot_len r; omega
    | succ k => simp only [List.take_succ_cons, tot, List.length_cons]; have := ih k; omega
/-- What is left behind a count: -1 where there is not enough. -/
def left (l : Nat) (t : Nat) : Int := if t ≤ l then ((l - t : Nat) : Int) else -1
theorem left_ok {l t : Nat} (h : t ≤ l) : left l t = (l : Int) - t := by unfold left; rw [if_pos h]; omega
theorem left_no {l t : Nat} (h : l < t) : left l t = -1 := by unfold left; rw [if_neg (by omega)]

/-- The first k names, the others still empty. -/
def fillS (xs : List ByteArray) (k : Nat) : List Value := (xs.take k).map Value.string ++ List.replicate (xs.length - k) (.string ⟨#[]⟩)
theorem fillS_set {xs : List ByteArray} {k : Nat} (h : k < xs.length) : (fillS xs k).set k (.string xs[k]) = fillS xs (k + 1) := by
  unfold fillS
  rw [List.set_append_right _ _ (by simp; omega), List.take_succ_eq_append_getElem h]
  simp only [List.length_map, List.length_take, List.map_append, List.map_cons, List.map_nil, List.append_assoc]
  congr 1
  have e : xs.length - k = (xs.length - (k + 1)) + 1 := by omega
  rw [Nat.min_eq_left (by omega), Nat.sub_self, e, List.replicate_succ]
  simp
theorem fillS_at {xs : List ByteArray} {k : Nat} (h : k < xs.length) : (fillS xs k)[k]? = some (.string ⟨#[]⟩) := by
  unfold fillS
  rw [List.getElem?_append_right (by simp; omega)]
  simp only [List.length_map, List.length_take, Nat.min_eq_left (Nat.le_of_lt h), Nat.sub_self]
  rw [List.getElem?_replicate, if_pos (by omega)]
theorem fillS_all (xs : List ByteArray) : fillS xs xs.length = xs.map Value.string := by
  unfold fillS
  simp

theorem stringInfo : (Tryd.prog.info? 9).map (fun i => (i.zero, i.size, i.bytes)) = some (some (.string ⟨#[]⟩), 1, 16) := by kernel_rfl

end Go.Proofs.YtfodedakhnoplaaDoor
