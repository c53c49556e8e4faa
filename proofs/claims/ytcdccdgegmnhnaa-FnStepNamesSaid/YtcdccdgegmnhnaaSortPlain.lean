/- Plain laws: sorting and leaving out what is there twice is putting one after the other. No program. No condition. -/
import Derived.Test.YtcdccdgegmnhnaaPutPlain
import Derived.Lib.SlicesCompact
import Derived.Sort.Walk0
namespace Go.Proofs.Ytcdccdgegmnhnaa
set_option linter.unusedVariables false
set_option maxRecDepth 100000

/-- The reference's way of sorting. -/
def srtOf (xs : List ByteArray) : List ByteArray := xs.foldl putIn []
theorem foldl_srt : ∀ (xs : List ByteArray) (acc : List ByteArray), Srt acc → Srt (xs.foldl putIn acc)
  | [], _, h => h
  | x :: xs, acc, h => foldl_srt xs (putIn acc x) (putIn_srt h)
theorem srtOf_srt (xs : List ByteArray) : Srt (srtOf xs) := foldl_srt xs [] srt_nil
theorem mem_foldl {y : ByteArray} : ∀ (xs : List ByteArray) (acc : List ByteArray), y ∈ xs.foldl putIn acc ↔ y ∈ acc ∨ y ∈ xs
  | [], acc => by simp
  | x :: xs, acc => by
    rw [List.foldl_cons, mem_foldl xs (putIn acc x), mem_putIn]
    simp only [List.mem_cons]
    constructor
    · rintro ((h | h) | h)
      · exact .inr (.inl h)
      · exact .inl h
      · exact .inr (.inr h)
    · rintro (h | h | h)
      · exact .inl (.inr h)
      · exact .inl (.inl h)
      · exact .inr h
theorem mem_srtOf {y : ByteArray} {xs : List ByteArray} : y ∈ srtOf xs ↔ y ∈ xs := by
  unfold srtOf; rw [mem_foldl]; simp
/-- What compact leaves of the first m of ascending names. -/
theorem compactUp (zs : List (List UInt8)) (hs : zs.Pairwise fun a b => Op.bytesLess b a = false) : ∀ m, m ≤ zs.length →
    (Lib.compactUpTo zs.toArray m).Pairwise (fun a b => Op.bytesLess a b = true) ∧ (∀ x, x ∈ Lib.compactUpTo zs.toArray m ↔ x ∈ zs.take m)
  | 0, _ => by simp [Lib.compactUpTo]
  | m + 1, hm => by
    obtain ⟨h1, h2⟩ := compactUp zs hs m (by omega)
    have hget : zs.toArray[m]! = zs[m]'(by omega) := by simp [getElem!_pos, show m < zs.length by omega]
    have ht : zs.take (m + 1) = zs.take m ++ [zs[m]'(by omega)] := List.take_succ_eq_append_getElem (by omega)
    rw [Lib.compactUpTo_succ]
    by_cases hk : Lib.keeps zs.toArray m = true
    · rw [if_pos hk, hget, ht]
      refine ⟨List.pairwise_append.2 ⟨h1, List.pairwise_singleton _ _, ?_⟩, fun x => ?_⟩
      · intro a ha b hb
        rw [List.mem_singleton] at hb
        subst hb
        rw [h2] at ha
        obtain ⟨i, hi, rfl⟩ := List.mem_take_iff_getElem.1 ha
        have hi' : i < m := by omega
        unfold Lib.keeps at hk
        have hk := of_decide_eq_true hk
        have hne : zs[m]'(by omega) ≠ zs[m - 1]'(by omega) := by
          rcases hk with hk | hk
          · omega
          · rw [hget] at hk
            simpa [getElem!_pos, show m - 1 < zs.length by omega] using hk
        have q : ∀ i j, (hi : i < zs.length) → (hj : j < zs.length) → i < j → Op.bytesLess zs[j] zs[i] = false := fun i j hi hj h => List.pairwise_iff_getElem.1 hs i j hi hj h
        have q1 := q (m - 1) m (by omega) (by omega) (by omega)
        rcases bl_tri (zs[m - 1]'(by omega)) (zs[m]'(by omega)) with h | h | h
        · by_cases e : i = m - 1
          · subst e; exact h
          · have q2 := q i (m - 1) (by omega) (by omega) (by omega)
            rcases bl_tri (zs[i]'(by omega)) (zs[m - 1]'(by omega)) with k | k | k
            · exact bl_trans _ _ _ k h
            · rw [k]; exact h
            · rw [k] at q2; cases q2
        · exact absurd h.symm hne
        · rw [h] at q1; cases q1
      · simp only [List.mem_append, h2]
    · rw [if_neg hk, ht, List.append_nil]
      refine ⟨h1, fun x => ?_⟩
      rw [h2]
      simp only [List.mem_append, List.mem_singleton]
      refine ⟨.inl, fun h => h.elim id fun h => ?_⟩
      have hk2 : ¬ (m = 0 ∨ zs.toArray[m]! ≠ zs.toArray[m - 1]!) := fun e => hk (decide_eq_true e)
      have h0 : m ≠ 0 := fun e => hk2 (.inl e)
      have he : zs.toArray[m]! = zs.toArray[m - 1]! := Decidable.not_not.1 fun e => hk2 (.inr e)
      rw [hget] at he
      have he' : zs.toArray[m - 1]! = zs[m - 1]'(by omega) := by simp [getElem!_pos, show m - 1 < zs.length by omega]
      rw [he'] at he
      rw [h, he]
      exact List.mem_take_iff_getElem.2 ⟨m - 1, by omega, rfl⟩
/-- Sorted, and each once: that is the reference's way. -/
theorem compact_srtOf {xs : List ByteArray} {zs : List (List UInt8)} (hp : ∀ x, x ∈ zs ↔ x ∈ xs.map ByteArray.toList) (hs : zs.Pairwise fun a b => Op.bytesLess b a = false) :
    Lib.compact zs = (srtOf xs).map ByteArray.toList := by
  obtain ⟨h1, h2⟩ := compactUp zs hs zs.length (Nat.le_refl _)
  obtain ⟨ys, hys⟩ : ∃ ys : List ByteArray, ys = (Lib.compactUpTo zs.toArray zs.length).map fun l => (⟨l.toArray⟩ : ByteArray) := ⟨_, rfl⟩
  have hto : ∀ l : List UInt8, (⟨l.toArray⟩ : ByteArray).toList = l := fun l => by rw [ByteArray.toList_eq]
  have hback : ys.map ByteArray.toList = Lib.compactUpTo zs.toArray zs.length := by
    rw [hys, List.map_map]
    conv => rhs; rw [← List.map_id (Lib.compactUpTo zs.toArray zs.length)]
    exact List.map_congr_left fun l _ => hto l
  have hy : Srt ys := by
    unfold Srt
    rw [hys, List.pairwise_map]
    exact h1.imp fun {a b} h => by unfold blt; rw [hto, hto]; exact h
  show Lib.compactUpTo zs.toArray zs.length = _
  rw [← hback, srt_ext hy (srtOf_srt xs) fun x => ?_]
  rw [mem_srtOf]
  have e1 : x ∈ ys ↔ x.toList ∈ ys.map ByteArray.toList := ⟨fun h => List.mem_map_of_mem h, fun h => by
    obtain ⟨y, hy, e⟩ := List.mem_map.1 h
    rw [← toList_inj e]; exact hy⟩
  rw [e1, hback, h2, List.take_length, hp]
  exact ⟨fun h => by
    obtain ⟨y, hy, e⟩ := List.mem_map.1 h
    rw [← toList_inj e]; exact hy, fun h => List.mem_map_of_mem h⟩
theorem sorted_srtOf (xs : List ByteArray) : Lib.compact ((xs.map ByteArray.toList).mergeSort fun x y => decide (x ≤ y)) = (srtOf xs).map ByteArray.toList := by
  refine compact_srtOf (fun x => (List.mergeSort_perm _ _).mem_iff) ?_
  have htot : ∀ a b : List UInt8, (decide (a ≤ b) || decide (b ≤ a)) = true := fun a b => by
    rcases bl_tri a b with h | h | h
    · rw [Proofs.bytesLess_eq] at h; simp [List.le_of_lt (of_decide_eq_true h)]
    · subst h; simp
    · rw [Proofs.bytesLess_eq] at h; simp [List.le_of_lt (of_decide_eq_true h)]
  have htr : ∀ a b c : List UInt8, decide (a ≤ b) = true → decide (b ≤ c) = true → decide (a ≤ c) = true := fun a b c h k => decide_eq_true (List.le_trans (of_decide_eq_true h) (of_decide_eq_true k))
  refine (List.pairwise_mergeSort htr htot _).imp fun {a b} h => ?_
  rw [Proofs.bytesLess_eq]
  exact decide_eq_false (List.not_lt.2 (of_decide_eq_true h))
end Go.Proofs.Ytcdccdgegmnhnaa
