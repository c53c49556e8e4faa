/- Contracts of the laws' own functions on lists of names: szStringS, toStringS, eqStringS. Condition: sizes as the laws ask them. -/
import Derived.Test.YtcdccdgegmnhnaaRows
import Derived.WalkKit
import Derived.WalkSpells
import Derived.WalkLawsBesides
import Derived.Deep.QuietTactic
import Derived.BigQuiet
import Derived.Deep.OwnRows
import Derived.Test.YtcdccdgegmnhnaaPlain
import Derived.Test.YtcdccdgegmnhnaaWords
namespace Go.Proofs.Ytcdccdgegmnhnaa
set_option linter.unusedVariables false
set_option maxRecDepth 100000
open Go.RowKit Go.Deep

/-- What the laws count of a list of names. -/
def tot : List ByteArray → Nat
  | [] => 0
  | x :: r => x.size + 1 + tot r
theorem tot_len (xs : List ByteArray) : xs.length ≤ tot xs := by
  induction xs with
  | nil => simp [tot]
  | cons x r ih => simp only [tot, List.length_cons]; omega
theorem tot_mem {xs : List ByteArray} {x : ByteArray} (h : x ∈ xs) : x.size ≤ tot xs := by
  induction xs with
  | nil => cases h
  | cons y r ih =>
    simp only [tot]
    rcases List.mem_cons.1 h with rfl | h
    · omega
    · have := ih h; omega
theorem tot_take_succ {xs : List ByteArray} {k : Nat} (h : k < xs.length) : tot (xs.take (k + 1)) = tot (xs.take k) + xs[k].size + 1 := by
  induction xs generalizing k with
  | nil => simp at h
  | cons x r ih =>
    cases k with
    | zero => simp [tot]
    | succ k =>
      simp only [List.take_succ_cons, tot, List.getElem_cons_succ]
      rw [ih (by simpa using h)]
      omega
theorem tot_take_le (xs : List ByteArray) (k : Nat) : tot (xs.take k) + (xs.length - k) ≤ tot xs := by
  induction xs generalizing k with
  | nil => simp [tot]
  | cons x r ih =>
    cases k with
    | zero => simp only [List.take_zero, tot, List.length_cons]; have := tot_len r; omega
    | succ k => simp only [List.take_succ_cons, tot, List.length_cons]; have := ih k; omega
/-- What is left behind a count: -1 where there is not enough. -/
def left (l : Nat) (t : Nat) : Int := if t ≤ l then ((l - t : Nat) : Int) else -1
theorem left_ok {l t : Nat} (h : t ≤ l) : left l t = (l : Int) - t := by unfold left; rw [if_pos h]; omega
theorem left_no {l t : Nat} (h : l < t) : left l t = -1 := by unfold left; rw [if_neg (by omega)]

set_option maxHeartbeats 400000 in
theorem szStringS_any (A : Option Addr) (c : Nat) (xs : List ByteArray) (l : Nat) (w : World) (B : Nat) (h : Strs w B A c xs) (hl : l ≤ 1048576) :
    Calls Try.prog 15 #[.slice A xs.length c, .int .i64 l] w fun e w' => e = .returned (.int .i64 (left l (tot xs))) ∧ w = w' := by
  have h1 := h.len
  have h2 := h.cap
  have ht := tot_len xs
  by_cases h0 : l < xs.length
  · go_enter Try.func15, Try.ntmps15
    go_wp2
    go_ret
    exact ⟨ret_int (left_no (by omega)).symm, rfl⟩
  · go_enter Try.func15, Try.ntmps15
    go_wp2
    go_loop [1, 5] (fun m i => ∃ (k : Nat) (q : Int), k ≤ xs.length ∧ i = .int .i64 k ∧ m = .int .i64 q ∧ 0 ≤ q ∧ q ≤ 1048576 ∧ q + tot (xs.take k) + xs.length = l + k) (fun _ i => xs.length - (intOf i).toNat)
    case atStart => exact ⟨0, _, Nat.zero_le _, rfl, rfl, by omega, by omega, by simp [tot]⟩
    case round =>
      obtain ⟨k, q, hk, rfl, rfl, hq0, hq1, he0⟩ := hrel
      have he := Lib.hid he0
      clear he0
      by_cases hlt : k < xs.length
      · obtain ⟨ad, rfl, _, hcell⟩ := h.at_ hlt
        have hsz := h.lens k hlt
        have hts := tot_take_succ hlt
        have hle := tot_take_le xs (k + 1)
        have hkl : tot (xs.take k) + k ≤ 0 + tot (xs.take k) + k := by omega
        have Hts := Lib.hid hts
        clear hts
        have hlt' : k + 1 ≤ xs.length := hlt
        by_cases hneg : q < xs[k].size
        · have hfin : l < tot xs := by have := Hts.out; have := he.out; omega
          go_wp2
          go_ret
          exact ⟨ret_int (left_no hfin).symm, rfl⟩
        · have hn : 0 ≤ q - xs[k].size := by omega
          go_wp2
          go_round
          case rel => exact ⟨k + 1, q - xs[k].size, by omega, by go_num, rfl, by omega, by omega, by have := Hts.out; have := he.out; omega⟩
          case measure => simp [intOf]; omega
      · have hk' : xs.take k = xs := List.take_of_length_le (by omega)
        have hfin : left l (tot xs) = q := by
          have := he.out
          rw [hk'] at this
          rw [left_ok (by omega)]
          omega
        have Hfin := Lib.hid hfin
        clear hfin hk'
        go_wp2
        go_ret
        exact ⟨ret_int Hfin.out.symm, rfl⟩

/-- The first k names, the others still empty. -/
def fillS (xs : List ByteArray) (k : Nat) : List Value := (xs.take k).map Value.string ++ List.replicate (xs.length - k) (.string ⟨#[]⟩)
theorem fillS_set {xs : List ByteArray} {k : Nat} (h : k < xs.length) : (fillS xs k).set k (.string xs[k]) = fillS xs (k + 1) := by
  unfold fillS
  rw [List.set_append_right _ _ (by simp; omega), List.take_succ_eq_append_getElem h]
  simp only [List.length_map, List.length_take, List.map_append, List.map_cons, List.map_nil, List.append_assoc]
  congr 1
  have e : xs.length - k = (xs.length - (k + 1)) + 1 := by omega
  rw [Nat.min_eq_left (by omega), Nat.sub_self, e, List.replicate_succ]
  simp
theorem fillS_at {xs : List ByteArray} {k : Nat} (h : k < xs.length) : (fillS xs k)[k]? = some (.string ⟨#[]⟩) := by
  unfold fillS
  rw [List.getElem?_append_right (by simp; omega)]
  simp only [List.length_map, List.length_take, Nat.min_eq_left (Nat.le_of_lt h), Nat.sub_self]
  rw [List.getElem?_replicate, if_pos (by omega)]
theorem fillS_all (xs : List ByteArray) : fillS xs xs.length = xs.map Value.string := by
  unfold fillS
  simp

theorem stringInfo : (Try.prog.info? 9).map (fun i => (i.zero, i.size, i.bytes)) = some (some (.string ⟨#[]⟩), 1, 16) := by kernel_rfl

set_option maxHeartbeats 400000 in
theorem toStringS_any (A : Option Addr) (c : Nat) (xs : List ByteArray) (w : World) (B : Nat) (h : Strs w B A c xs) (hB : B ≤ w.heap.size) (hl : xs.length ≤ 1048576) :
    Calls Try.prog 16 #[.slice A xs.length c] w (RetStrs xs w) := by
  have h1 := h.len
  have h2 := h.cap
  have hmk := fun w => run_make_row' (P := Try.prog) 23 9 (.string ⟨#[]⟩) 16 Try.underlying23 stringInfo rfl .i64 .i64 xs.length (by omega) (by omega) w
  have hst : (madeCells #[Value.string ⟨#[]⟩] xs.length).toList = fillS xs 0 := by
    rw [toList_madeCells_one]; simp [fillS]
  have hown : (w.alloc (.cells (madeCells #[Value.string ⟨#[]⟩] xs.length) 9)).ownsRow w.heap.size 9 1 (.slice (some ⟨w.heap.size, 0, none⟩) xs.length xs.length) xs.length (fillS xs 0) := by
    rw [← hst]
    exact World.ownsRow_lit w _ _ (Nat.le_refl _) (by simp only [maxLen]; omega) (by simp [madeCells])
  have Hown := Lib.hid hown
  clear hown hst
  go_enter Try.func16, Try.ntmps16
  go_wp2
  clear hmk
  go_loopw [4] (fun i wr => ∃ k : Nat, k ≤ xs.length ∧ i = .int .i64 k ∧ Below w.heap.size w wr ∧ wr.ownsRow w.heap.size 9 1 (.slice (some ⟨w.heap.size, 0, none⟩) xs.length xs.length) xs.length (fillS xs k)) (fun i _ => xs.length - (intOf i).toNat)
  case atStart => exact ⟨0, Nat.zero_le _, rfl, (Below.refl _ _).alloc (Nat.le_refl _) _, Hown.out⟩
  case round =>
    obtain ⟨k, hk, rfl, hb, hown⟩ := hrel
    by_cases hlt : k < xs.length
    · obtain ⟨ad, rfl, _, hcell⟩ := (h.below (hb.mono hB)).at_ hlt
      have hc0 : wr.cell? ⟨w.heap.size, k, none⟩ = some (.string ⟨#[]⟩) := by
        rw [hown.cellAt k (by omega)]; exact fillS_at hlt
      have hf0 := hown.frozenAt k
      have hown1 := (hown.stored k (.string xs[k])).1
      rw [fillS_set hlt] at hown1
      go_wp2
      go_roundw
      case rel => exact ⟨k + 1, by omega, by go_num, hb.setCell (Nat.le_refl _) _, hown1⟩
      case measure => simp [intOf]; omega
    · obtain rfl : k = xs.length := by omega
      go_wp2
      go_ret
      rw [fillS_all] at hown
      exact ⟨_, _, rfl, ⟨hown, fun x hx => by obtain ⟨j, hj, rfl⟩ := List.getElem_of_mem hx; exact h.lens j hj⟩, hb⟩

set_option maxHeartbeats 400000 in
theorem eqStringS_any (A A' : Option Addr) (c c' : Nat) (xs ys : List ByteArray) (w : World) (B B' : Nat) (h : Strs w B A c xs) (h' : Strs w B' A' c' ys) :
    Calls Try.prog 17 #[.slice A xs.length c, .slice A' ys.length c'] w fun e w' => e = .returned (.bool (decide (xs = ys))) ∧ Below w.heap.size w w' := by
  have h1 := h.len
  have h2 := h.cap
  have h3 := h'.len
  have h4 := h'.cap
  by_cases hn : xs.length = ys.length
  · have hn' : ((xs.length : Int) != ys.length) = false := by simp [hn]
    have Hn := Lib.hid hn
    clear hn
    go_enter Try.func17, Try.ntmps17
    go_wp2
    go_loopw [5] (fun i wr => ∃ k : Nat, k ≤ xs.length ∧ i = .int .i64 k ∧ Below w.heap.size w wr ∧ xs.take k = ys.take k) (fun i _ => xs.length - (intOf i).toNat)
    case atStart => exact ⟨0, Nat.zero_le _, rfl, Below.refl _ _, by simp⟩
    case round =>
      obtain ⟨k, hk, rfl, hb, he0⟩ := hrel
      have he := Lib.hid he0
      clear he0
      by_cases hlt : k < xs.length
      · have hlt' : k < ys.length := by have := Hn.out; omega
        have hi0 : (0 : Int) ≤ k := by omega
        have hi1 : (k : Int) < xs.length := by omega
        have hi2 : (k : Int) < ys.length := by omega
        obtain ⟨ad, rfl, _, hcell⟩ := (h.then_ hb).at_ hlt
        obtain ⟨ad', rfl, _, hcell'⟩ := (h'.then_ hb).at_ hlt'
        by_cases hx : xs[k] = ys[k]
        · have hx1 : (xs[k].toList != ys[k].toList) = false := by simp [hx]
          have hx2 : (xs[k].toList == ys[k].toList) = true := by simp [hx]
          have Hx := Lib.hid hx
          clear hx
          go_wp2
          go_quiet (fail)
          go_wp2
          go_roundw
          case rel => exact ⟨k + 1, by omega, by go_num, bdrewN hb _, by
            rw [List.take_succ_eq_append_getElem hlt, List.take_succ_eq_append_getElem hlt', he.out, Hx.out]⟩
          case measure => simp [intOf]; omega
        · have hx0 : (xs[k].toList == ys[k].toList) = false := by rw [str_beq]; exact decide_eq_false hx
          have hx1 : (xs[k].toList != ys[k].toList) = true := by simp only [bne, hx0]; rfl
          go_wp2
          go_quiet (fail)
          go_wp2
          go_ret
          exact ⟨ret_bool (by symm; apply decide_eq_false; rintro rfl; exact hx rfl), bdrewN hb _⟩
      · go_wp2
        go_ret
        exact ⟨ret_bool (by
          symm; apply decide_eq_true
          have h1 : xs.take k = xs := List.take_of_length_le (by omega)
          have h2 : ys.take k = ys := List.take_of_length_le (by have := Hn.out; omega)
          rw [← h1, ← h2]; exact he.out), hb⟩
  · have hn' : ((xs.length : Int) != ys.length) = true := by
      rw [bne_iff_ne]; omega
    have Hn := Lib.hid hn
    clear hn
    go_enter Try.func17, Try.ntmps17
    go_wp2
    go_ret
    exact ⟨ret_bool (by symm; apply decide_eq_false; rintro rfl; exact Hn.out rfl), Below.refl _ _⟩
end Go.Proofs.Ytcdccdgegmnhnaa
