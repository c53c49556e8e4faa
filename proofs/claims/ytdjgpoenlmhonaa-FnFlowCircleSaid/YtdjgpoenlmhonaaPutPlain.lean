/- Plain laws on putting a name into ascending names, and on ascending lists. No program. No condition. -/
import Derived.Test.YtdjgpoenlmhonaaOrder
namespace Go.Proofs.Ytdjgpoenlmhonaa
set_option linter.unusedVariables false
set_option maxRecDepth 100000

/-- Ascending, each once. -/
def Srt (xs : List ByteArray) : Prop := xs.Pairwise fun a b => blt a b = true
/-- The reference's way of putting a name. -/
def putGo (n : ByteArray) : Bool → List ByteArray → List ByteArray
  | d, [] => if d then [] else [n]
  | d, x :: r => (if !d && !blt x n then [n] else []) ++ (if x = n then [] else [x]) ++ putGo n (d || !blt x n) r
def putIn (xs : List ByteArray) (n : ByteArray) : List ByteArray := putGo n false xs

theorem putGo_true (n : ByteArray) : ∀ xs : List ByteArray, putGo n true xs = xs.filter fun x => !decide (x = n)
  | [] => rfl
  | x :: r => by
    have ih := putGo_true n r
    by_cases h : x = n
    · simp [putGo, h, ih]
    · simp [putGo, h, ih]
theorem putGo_low {n x : ByteArray} {r : List ByteArray} (h : blt x n = true) : putGo n false (x :: r) = x :: putGo n false r := by
  have hne : ¬ x = n := by rintro rfl; rw [blt_irrefl] at h; cases h
  simp [putGo, h, hne]
theorem putGo_high {n x : ByteArray} {r : List ByteArray} (h : blt x n = false) : putGo n false (x :: r) = n :: (x :: r).filter fun x => !decide (x = n) := by
  rw [← putGo_true]
  simp [putGo, h]
theorem mem_putGo {n y : ByteArray} : ∀ xs : List ByteArray, y ∈ putGo n false xs ↔ y = n ∨ y ∈ xs
  | [] => by simp [putGo]
  | x :: r => by
    cases h : blt x n
    · rw [putGo_high h]
      simp only [List.mem_cons, List.mem_filter, Bool.not_eq_true', decide_eq_false_iff_not]
      constructor
      · rintro (e | ⟨e, _⟩)
        · exact .inl e
        · exact .inr e
      · rintro (e | e)
        · exact .inl e
        · by_cases hy : y = n
          · exact .inl hy
          · exact .inr ⟨e, hy⟩
    · rw [putGo_low h, List.mem_cons, mem_putGo r, List.mem_cons]
      constructor
      · rintro (e | e | e)
        · exact .inr (.inl e)
        · exact .inl e
        · exact .inr (.inr e)
      · rintro (e | e | e)
        · exact .inr (.inl e)
        · exact .inl e
        · exact .inr (.inr e)
theorem mem_putIn {n y : ByteArray} {xs : List ByteArray} : y ∈ putIn xs n ↔ y = n ∨ y ∈ xs := mem_putGo xs
theorem putGo_srt {n : ByteArray} : ∀ {xs : List ByteArray}, Srt xs → Srt (putGo n false xs)
  | [], _ => by simp [putGo, Srt]
  | x :: r, hs => by
    obtain ⟨h1, h2⟩ := List.pairwise_cons.1 hs
    cases h : blt x n
    · rw [putGo_high h]
      refine List.pairwise_cons.2 ⟨fun y hy => ?_, List.Pairwise.filter _ hs⟩
      simp only [List.mem_filter, Bool.not_eq_true', decide_eq_false_iff_not] at hy
      obtain ⟨hy, hne⟩ := hy
      have hxy : x = y ∨ blt x y = true := by
        rcases List.mem_cons.1 hy with e | e
        · exact .inl e.symm
        · exact .inr (h1 y e)
      rcases blt_tri n y with t | t | t
      · exact t
      · exact absurd t.symm hne
      · exfalso
        rcases hxy with rfl | e
        · rw [h] at t; cases t
        · have := blt_trans e t
          rw [h] at this; cases this
    · rw [putGo_low h]
      refine List.pairwise_cons.2 ⟨fun y hy => ?_, putGo_srt h2⟩
      rcases (mem_putGo r).1 hy with e | e
      · rw [e]; exact h
      · exact h1 y e
theorem putIn_srt {n : ByteArray} {xs : List ByteArray} (h : Srt xs) : Srt (putIn xs n) := putGo_srt h
/-- Ascending lists of the same names are the same. -/
theorem srt_ext : ∀ {xs ys : List ByteArray}, Srt xs → Srt ys → (∀ x, x ∈ xs ↔ x ∈ ys) → xs = ys
  | [], [], _, _, _ => rfl
  | [], y :: ys, _, _, h => by have := (h y).2 (by simp); cases this
  | x :: xs, [], _, _, h => by have := (h x).1 (by simp); cases this
  | x :: xs, y :: ys, hx, hy, h => by
    obtain ⟨hx1, hx2⟩ := List.pairwise_cons.1 hx
    obtain ⟨hy1, hy2⟩ := List.pairwise_cons.1 hy
    have e : x = y := by
      rcases List.mem_cons.1 ((h x).1 (by simp)) with e | e
      · exact e
      · rcases List.mem_cons.1 ((h y).2 (by simp)) with e2 | e2
        · exact e2.symm
        · have := blt_trans (hy1 x e) (hx1 y e2)
          rw [blt_irrefl] at this; cases this
    subst e
    congr 1
    refine srt_ext hx2 hy2 fun z => ?_
    constructor
    · intro hz
      rcases List.mem_cons.1 ((h z).1 (by simp [hz])) with e | e
      · have := hx1 z hz
        rw [e, blt_irrefl] at this; cases this
      · exact e
    · intro hz
      rcases List.mem_cons.1 ((h z).2 (by simp [hz])) with e | e
      · have := hy1 z hz
        rw [e, blt_irrefl] at this; cases this
      · exact e
theorem srt_lt {xs : List ByteArray} (h : Srt xs) {i j : Nat} (hi : i < j) (hj : j < xs.length) : blt (xs[i]'(by omega)) xs[j] = true := List.pairwise_iff_getElem.1 h i j (by omega) hj hi
theorem asc_srt {xs : List ByteArray} (h : asc xs = true) : Srt xs := List.pairwise_iff_getElem.2 fun i j hi hj hij => asc_lt h j hj i hij
theorem srt_nil : Srt [] := List.Pairwise.nil
theorem putIn_size {n : ByteArray} {xs : List ByteArray} {m : Nat} (hn : n.size ≤ m) (hx : ∀ x ∈ xs, x.size ≤ m) : ∀ x ∈ putIn xs n, x.size ≤ m := by
  intro x h
  rcases mem_putIn.1 h with e | e
  · rw [e]; exact hn
  · exact hx x e
theorem putGo_len (n : ByteArray) : ∀ (d : Bool) (xs : List ByteArray), (putGo n d xs).length ≤ xs.length + 1
  | d, [] => by cases d <;> simp [putGo]
  | true, x :: r => by rw [putGo_true]; exact Nat.le_trans (List.length_filter_le _ _) (Nat.le_succ _)
  | false, x :: r => by
    cases h : blt x n
    · rw [putGo_high h]
      have := List.length_filter_le (fun x => !decide (x = n)) (x :: r)
      simp only [List.length_cons] at this ⊢
      omega
    · rw [putGo_low h]
      have := putGo_len n false r
      simp only [List.length_cons]
      omega
theorem putIn_len (xs : List ByteArray) (n : ByteArray) : (putIn xs n).length ≤ xs.length + 1 := putGo_len n false xs
/-- The loop's way: behind k names, the list out and whether the name is put. -/
theorem putGo_step {n x : ByteArray} {d : Bool} {r : List ByteArray} : putGo n d (x :: r) = (if !d && !blt x n then [n] else []) ++ (if x = n then [] else [x]) ++ putGo n (d || !blt x n) r := rfl
end Go.Proofs.Ytdjgpoenlmhonaa
