/- Contracts of the library's sort and compact at a call's own list of names. Condition: at most 2000000 names. -/
import Derived.Test.YtcdccdgegmnhnaaSortPlain
import Derived.Test.YtcdccdgegmnhnaaWords
import Derived.Test.YtcdccdgegmnhnaaShelfG
import Derived.Shelf.Sort.Plain
import Derived.Shelf.Slices.In.SortNone
import Derived.Shelf.Slices.CompactS
import Derived.Sort.OwnSorted
import Derived.Lib.OwnBridge
namespace Go.Proofs.Ytcdccdgegmnhnaa
set_option linter.unusedVariables false
set_option maxRecDepth 100000
open Go.RowKit Go.Sort

theorem strs_enc (ts : List (List UInt8)) : (ts.map fun l => (⟨l.toArray⟩ : ByteArray)).map Value.string = ts.map encStr := by
  rw [List.map_map]; rfl
theorem strs_to (ts : List (List UInt8)) : (ts.map fun l => (⟨l.toArray⟩ : ByteArray)).map ByteArray.toList = ts := by
  rw [List.map_map]
  conv => rhs; rw [← List.map_id ts]
  exact List.map_congr_left fun l _ => by show ByteArray.toList _ = id l; rw [ByteArray.toList_eq]; rfl
theorem enc_strs (xs : List ByteArray) : (xs.map ByteArray.toList).map encStr = xs.map Value.string := by
  rw [← Lib.map_encStr xs]
  congr 1
  exact List.map_congr_left fun x _ => ByteArray.toList_eq x
theorem to_inj {xs ys : List ByteArray} (h : xs.map ByteArray.toList = ys.map ByteArray.toList) : xs = ys := by
  refine List.map_inj_right (fun a b e => toList_inj e) |>.1 h
theorem size_of_to (x : ByteArray) : x.toList.length = x.size := by rw [ByteArray.toList_eq]; simp

theorem mem_compact_of {α : Type} [Inhabited α] [DecidableEq α] {zs : List α} {x : α} (h : x ∈ Lib.compact zs) : x ∈ zs := by
  unfold Lib.compact Lib.compactUpTo at h
  obtain ⟨j, hj, rfl⟩ := List.mem_map.1 h
  have hj' : j < zs.length := by
    have := (List.mem_filter.1 hj).1
    simpa using this
  simp [hj']

theorem slSort_own (A : Option Addr) (c : Nat) (xs : List ByteArray) (w : World) (base : Nat) (ho : OwnStrs w base A c xs) (hl : xs.length ≤ 2000000) (hB : base ≤ w.heap.size) :
    Calls Try.prog 37 #[.slice A xs.length c] w fun e w' => e = .returned (.tuple #[]) ∧ ∃ ys : List ByteArray, OwnStrs w' base A c ys ∧ ys.length = xs.length ∧ ys.map ByteArray.toList = (xs.map ByteArray.toList).mergeSort (fun x y => decide (x ≤ y)) ∧ Below base w w' ∧ w.heap.size ≤ w'.heap.size := by
  by_cases h0 : xs = []
  · subst h0
    have K : Calls Try.prog 37 #[.slice A 0 c] w _ := Any.slices_Sort_string_none Try.lays190 A c w
    refine K.mono ?_
    rintro e w' ⟨rfl, rfl⟩
    exact ⟨rfl, [], ho, rfl, by simp, Below.refl _ _, Nat.le_refl _⟩
  · obtain ⟨hr, hx⟩ := ho
    rw [← enc_strs] at hr
    have hn0 : xs.length ≠ 0 := fun e => h0 (List.eq_nil_of_length_eq_zero e)
    rcases hr.2 with ⟨_, e0⟩ | ⟨g, cap, cur, hv, hb, hg, h1, h2, h3, h4⟩
    · exact absurd e0 hn0
    · injection hv with hA _ hc
      subst hA hc
      obtain ⟨g', cap', hv', hbg, hgl, hnc, hcm, hlen, hH⟩ := Lib.holds_of_ownsRow hr (by intro h; injection h with h _; cases h)
      injection hv' with hA' _ hc'
      injection hA' with hA'
      injection hA' with hA'
      subst hA' hc'
      obtain ⟨ts, hts⟩ : ∃ ts, ts = (xs.map ByteArray.toList).mergeSort (fun x y => decide (x ≤ y)) := ⟨_, rfl⟩
      have hlt : ts.length = (xs.map ByteArray.toList).length := by rw [hts, List.length_mergeSort]
      have K := Any.slices_Sort_string Try.lays190 g 0 c (xs.map ByteArray.toList) w hH hgl (by rw [List.length_map]; omega)
      rw [List.length_map, ← hts] at K
      have K' : Calls Try.prog 37 #[.slice (some ⟨g, 0, none⟩) xs.length c] w _ := K
      refine K'.mono ?_
      rintro e w' ⟨rfl, nn, os, rfl⟩
      have hso := ownsRow_sorted (n := nn) (os := os) (base := base) (cap := c) hlt hb hg (by rw [List.length_map]; exact h1) h2 h3
      have hgr := grownBy_sorted (w := w) (g := g) (n := nn) (os := os) ts.toArray
      have hle : ts.length = xs.length := by rw [hlt, List.length_map]
      refine ⟨rfl, ts.map fun l => (⟨l.toArray⟩ : ByteArray), ⟨?_, ?_⟩, by rw [List.length_map, hle], by rw [strs_to, hts], (Below.refl _ w).grown hgr hB (fun k e => by injection e with e; omega), hgr.size⟩
      · rw [strs_enc, List.length_map, hle]
        rw [List.length_map] at hso
        exact hso
      · intro x hm
        obtain ⟨l, hl, rfl⟩ := List.mem_map.1 hm
        rw [hts, (List.mergeSort_perm _ _).mem_iff] at hl
        obtain ⟨y, hy, e⟩ := List.mem_map.1 hl
        have := hx y hy
        have e2 : (⟨l.toArray⟩ : ByteArray) = y := by
          apply toList_inj
          rw [e, ByteArray.toList_eq]
        rw [e2]; exact this

theorem slCompact_own (A : Option Addr) (c : Nat) (xs : List ByteArray) (w : World) (base : Nat) (ho : OwnStrs w base A c xs) (hl : xs.length ≤ 2000000) (hB : base ≤ w.heap.size) :
    Calls Try.prog 38 #[.slice A xs.length c] w fun e w' => ∃ ys : List ByteArray, e = .returned (.slice A ys.length c) ∧ OwnStrs w' base A c ys ∧ ys.length ≤ xs.length ∧ ys.map ByteArray.toList = Lib.compact (xs.map ByteArray.toList) ∧ Below base w w' ∧ w.heap.size ≤ w'.heap.size := by
  by_cases h0 : xs = []
  · subst h0
    have K : Calls Try.prog 38 #[.slice A 0 c] w _ := Any.slices_Compact_string_empty Try.lays194 A c w
    refine K.mono ?_
    rintro e w' ⟨rfl, rfl⟩
    exact ⟨[], rfl, ho, Nat.le_refl _, rfl, Below.refl _ _, Nat.le_refl _⟩
  · obtain ⟨hr, hx⟩ := ho
    rw [← enc_strs] at hr
    have hn0 : xs.length ≠ 0 := fun e => h0 (List.eq_nil_of_length_eq_zero e)
    rcases hr.2 with ⟨_, e0⟩ | ⟨g, cap, cur, hv, hb, hg, h1, h2, h3, h4⟩
    · exact absurd e0 hn0
    · injection hv with hA _ hc
      subst hA hc
      obtain ⟨g', cap', hv', hbg, hgl, hnc, hcm, hlen, hH⟩ := Lib.holds_of_ownsRow hr (by intro h; injection h with h _; cases h)
      injection hv' with hA' _ hc'
      injection hA' with hA'
      injection hA' with hA'
      subst hA' hc'
      obtain ⟨ts, hts⟩ : ∃ ts, ts = Lib.compact (xs.map ByteArray.toList) := ⟨_, rfl⟩
      have hle : ts.length ≤ xs.length := by
        have := Lib.compact_length_le (xs.map ByteArray.toList)
        rw [hts]; rw [List.length_map] at this; exact this
      have K := Any.slices_Compact_string Try.lays194 g 0 c (xs.map ByteArray.toList) w hH (by rw [List.length_map]; omega) (by rw [List.length_map]; exact h1)
      rw [List.length_map, ← hts] at K
      have K' : Calls Try.prog 38 #[.slice (some ⟨g, 0, none⟩) xs.length c] w _ := K
      refine K'.mono ?_
      rintro e w' ⟨rfl, q, rfl⟩
      have hso := Lib.ownsRow_putRow (q := q) (k := ts.length) (ys := ts ++ List.replicate (xs.length - ts.length) []) hr (by simp; omega) hle
      rw [List.take_left] at hso
      refine ⟨ts.map fun l => (⟨l.toArray⟩ : ByteArray), by rw [List.length_map], ⟨?_, ?_⟩, by rw [List.length_map]; exact hle, by rw [strs_to, hts], Lib.below_putRow (Below.refl _ w) hb, by simp [putRow, mapBlock, Sort.ahead]⟩
      · rw [strs_enc, List.length_map]
        exact hso
      · intro x hm
        obtain ⟨l, hl, rfl⟩ := List.mem_map.1 hm
        have hlm : l ∈ xs.map ByteArray.toList := by
          rw [hts] at hl
          exact mem_compact_of hl
        obtain ⟨y, hy, e⟩ := List.mem_map.1 hlm
        have := hx y hy
        have e2 : (⟨l.toArray⟩ : ByteArray) = y := by
          apply toList_inj
          rw [e, ByteArray.toList_eq]
        rw [e2]; exact this
end Go.Proofs.Ytcdccdgegmnhnaa
