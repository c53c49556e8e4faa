/- Plain laws on the order of names, and on lists that ascend. No program. No condition. -/
import GoSem.Op.String
import Derived.Laws.Strings
import Derived.Test.YtfodedakhnoplaaDoorPlain
namespace Go.Proofs.YtfodedakhnoplaaDoor
set_option linter.unusedVariables false
set_option maxRecDepth 100000
open Go

theorem bl_irrefl (a : List UInt8) : Op.bytesLess a a = false := by
  induction a with
  | nil => rfl
  | cons x r ih => simp [Op.bytesLess, ih]
theorem bl_trans : ∀ a b c : List UInt8, Op.bytesLess a b = true → Op.bytesLess b c = true → Op.bytesLess a c = true
  | _, [], _, h, _ => by cases ‹List UInt8› <;> simp [Op.bytesLess] at h
  | _, _ :: _, [], _, h => by simp [Op.bytesLess] at h
  | [], _ :: _, _ :: _, _, _ => rfl
  | x :: a, y :: b, z :: c, h, k => by
    simp only [Op.bytesLess, Bool.or_eq_true, Bool.and_eq_true, decide_eq_true_eq, beq_iff_eq] at h k ⊢
    rcases h with h | ⟨rfl, h⟩
    · rcases k with k | ⟨rfl, k⟩
      · exact .inl (UInt8.lt_trans h k)
      · exact .inl h
    · rcases k with k | ⟨rfl, k⟩
      · exact .inl k
      · exact .inr ⟨rfl, bl_trans a b c h k⟩
theorem bl_tri : ∀ a b : List UInt8, Op.bytesLess a b = true ∨ a = b ∨ Op.bytesLess b a = true
  | [], [] => .inr (.inl rfl)
  | [], _ :: _ => .inl rfl
  | _ :: _, [] => .inr (.inr rfl)
  | x :: a, y :: b => by
    simp only [Op.bytesLess, Bool.or_eq_true, Bool.and_eq_true, decide_eq_true_eq, beq_iff_eq, List.cons.injEq]
    rcases UInt8.lt_or_lt_of_ne (a := x) (b := y) |> fun f => (Classical.em (x = y)).elim Or.inl (fun h => Or.inr (f h)) with h | h | h
    · subst h
      rcases bl_tri a b with k | k | k
      · exact .inl (.inr ⟨rfl, k⟩)
      · exact .inr (.inl ⟨rfl, k⟩)
      · exact .inr (.inr (.inr ⟨rfl, k⟩))
    · exact .inl (.inl h)
    · exact .inr (.inr (.inl h))

/-- One name before another. -/
def blt (a b : ByteArray) : Bool := Op.bytesLess a.toList b.toList
theorem toList_inj {a b : ByteArray} (h : a.toList = b.toList) : a = b := by
  rw [ByteArray.toList_eq, ByteArray.toList_eq] at h
  cases a; cases b
  simpa using h
theorem blt_irrefl (a : ByteArray) : blt a a = false := bl_irrefl _
theorem blt_trans {a b c : ByteArray} (h : blt a b = true) (k : blt b c = true) : blt a c = true := bl_trans _ _ _ h k
theorem blt_tri (a b : ByteArray) : blt a b = true ∨ a = b ∨ blt b a = true := by
  rcases bl_tri a.toList b.toList with h | h | h
  · exact .inl h
  · exact .inr (.inl (toList_inj h))
  · exact .inr (.inr h)
theorem blt_asymm {a b : ByteArray} (h : blt a b = true) : blt b a = false := by
  cases hb : blt b a
  · rfl
  · have := blt_trans h hb
    rw [blt_irrefl] at this
    cases this
/-- 'a <= b', as the walk spells it. -/
theorem ble_eq (a b : ByteArray) : (Op.bytesLess a.toList b.toList || a.toList == b.toList) = !blt b a := by
  rcases blt_tri a b with h | rfl | h
  · rw [blt_asymm h]
    have : Op.bytesLess a.toList b.toList = true := h
    rw [this]; rfl
  · rw [blt_irrefl]; simp
  · rw [h]
    have h1 : Op.bytesLess a.toList b.toList = false := blt_asymm h
    have h2 : (a.toList == b.toList) = false := by
      cases he : (a.toList == b.toList)
      · rfl
      · have := toList_inj (beq_iff_eq.1 he)
        subst this
        rw [blt_irrefl] at h; cases h
    rw [h1, h2]; rfl

/-- Names that are valid and ascend. -/
def asc (xs : List ByteArray) : Bool := decide (∀ j, (h : j < xs.length) → nameOk xs[j] = true ∧ (0 < j → blt (xs[j - 1]'(by omega)) xs[j] = true))
theorem asc_iff {xs : List ByteArray} : asc xs = true ↔ ∀ j, (h : j < xs.length) → nameOk xs[j] = true ∧ (0 < j → blt (xs[j - 1]'(by omega)) xs[j] = true) := by
  unfold asc; exact decide_eq_true_iff
theorem asc_bad_name {xs : List ByteArray} {k : Nat} (hk : k < xs.length) (h : nameOk xs[k] = false) : asc xs = false := by
  cases ha : asc xs
  · rfl
  · have := (asc_iff.1 ha k hk).1
    rw [h] at this; cases this
theorem asc_bad_order {xs : List ByteArray} {k : Nat} (hk : k < xs.length) (h0 : 0 < k) (h : blt (xs[k - 1]'(by omega)) xs[k] = false) : asc xs = false := by
  cases ha : asc xs
  · rfl
  · have := (asc_iff.1 ha k hk).2 h0
    rw [h] at this; cases this
theorem asc_lt {xs : List ByteArray} (h : asc xs = true) : ∀ (j : Nat) (hj : j < xs.length) (i : Nat) (hi : i < j), blt (xs[i]'(by omega)) xs[j] = true := by
  intro j
  induction j with
  | zero => intro _ i hi; omega
  | succ j ih =>
    intro hj i hi
    have h1 := (asc_iff.1 h (j + 1) hj).2 (by omega)
    by_cases e : i = j
    · subst e; exact h1
    · exact blt_trans (ih (by omega) i (by omega)) h1

/-- A step is valid by itself. -/
def stepOk (nm : ByteArray) (after : List ByteArray) : Bool := nameOk nm && decide (after.length ≤ 4) && asc after && !has after nm
end Go.Proofs.YtfodedakhnoplaaDoor
