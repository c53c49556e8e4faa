/- Contracts of the functions on names: NameValid (program and reference), slices.Index, slices.Contains, l1At, NamesHave, l1Have, l6In. Condition: lengths as Go has them. -/
import Derived.Test.YtdjgpoenlmhonaaRows
import Derived.WalkKit
import Derived.WalkSpells
import Derived.WalkLawsBesides
import Derived.Test.YtdjgpoenlmhonaaPlain
import Derived.Test.YtdjgpoenlmhonaaWords
namespace Go.Proofs.Ytdjgpoenlmhonaa
set_option linter.unusedVariables false
set_option maxRecDepth 100000
open Go.RowKit

set_option maxHeartbeats 400000 in
theorem iNameValid_any (s : ByteArray) (w : World) (hs : s.size ≤ 9223372036854775807) :
    Calls Try.prog 30 #[.string s] w fun e w' => e = .returned (.bool (nameOk s)) ∧ w = w' := by
  by_cases h1 : s.size < 1
  · go_enter Try.func30, Try.ntmps30
    go_wp2
    go_ret
    exact ⟨ret_bool (nameOk_len (.inl h1)).symm, rfl⟩
  · by_cases h5 : 5 < s.size
    · go_enter Try.func30, Try.ntmps30
      go_wp2
      go_ret
      exact ⟨ret_bool (nameOk_len (.inr h5)).symm, rfl⟩
    · go_enter Try.func30, Try.ntmps30
      go_wp2
      go_loop [14] (fun i => ∃ k : Nat, k ≤ s.size ∧ i = .int .i64 k ∧ ∀ j (hj : j < s.size), j < k → isLow s[j] = true) (fun i => s.size - (intOf i).toNat)
      case atStart => exact ⟨0, Nat.zero_le _, rfl, fun j hj h => absurd h (by omega)⟩
      case round =>
        obtain ⟨k, hk, rfl, hall0⟩ := hrel
        have hall := Lib.hid hall0
        clear hall0
        by_cases hlt : k < s.size
        · go_wp2
          · go_ret
            exact ⟨ret_bool (nameOk_bad hlt (.inr (by omega))).symm, rfl⟩
          · go_round
            case rel => exact ⟨k + 1, by omega, by go_num, fun j hj h => by
              by_cases e : j = k
              · subst e; exact isLow_of ⟨by omega, by omega⟩
              · exact hall.out j hj (by omega)⟩
            case measure => simp [intOf]; omega
          · go_ret
            exact ⟨ret_bool (nameOk_bad hlt (.inl (by omega))).symm, rfl⟩
        · go_wp2
          go_ret
          exact ⟨ret_bool (nameOk_all (by omega) (by omega) (fun j hj => hall.out j hj (by omega))).symm, rfl⟩

theorem in_any (n a b : Int) (w : World) :
    Calls Try.prog 28 #[.int .i64 n, .int .i64 a, .int .i64 b] w fun e w' => e = .returned (.bool (decide (a ≤ n) && decide (n ≤ b))) ∧ w = w' := by
  by_cases h : a ≤ n
  · go_enter Try.func28, Try.ntmps28
    go_wp2
    go_ret
    exact ⟨ret_bool (by simp [h]), rfl⟩
  · go_enter Try.func28, Try.ntmps28
    go_wp2
    go_ret
    exact ⟨ret_bool (by have h' : ¬ a ≤ n := by omega
                        simp [h']), rfl⟩

set_option maxHeartbeats 400000 in
theorem sNameValid_any (s : ByteArray) (w : World) (hs : s.size ≤ 9223372036854775807) :
    Calls Try.prog 33 #[.string s] w fun e w' => e = .returned (.bool (nameOk s)) ∧ w = w' := by
  go_enter Try.func33, Try.ntmps33
  go_wp2
  go_loop [3] (fun i => ∃ k : Nat, k ≤ s.size ∧ i = .int .i64 k ∧ ∀ j (hj : j < s.size), j < k → isLow s[j] = true) (fun i => s.size - (intOf i).toNat)
  case atStart => exact ⟨0, Nat.zero_le _, rfl, fun j hj h => absurd h (by omega)⟩
  case round =>
    obtain ⟨k, hk, rfl, hall0⟩ := hrel
    have hall := Lib.hid hall0
    clear hall0
    by_cases hlt : k < s.size
    · go_wp2
      · go_ret
        exact ⟨ret_bool (nameOk_bad hlt (.inr (by omega))).symm, rfl⟩
      · go_round
        case rel => exact ⟨k + 1, by omega, by go_num, fun j hj h => by
          by_cases e : j = k
          · subst e; exact isLow_of ⟨by omega, by omega⟩
          · exact hall.out j hj (by omega)⟩
        case measure => simp [intOf]; omega
      · go_ret
        exact ⟨ret_bool (nameOk_bad hlt (.inl (by omega))).symm, rfl⟩
    · go_wp2_with (go_at_call 28; refine (in_any _ _ _ _).mono ?_; rintro e w' ⟨rfl, rfl⟩)
      go_ret
      refine ⟨ret_bool ?_, rfl⟩
      have := allLow_all (s := s) (fun j hj => hall.out j hj (by omega))
      unfold nameOk
      rw [this]
      by_cases h1 : 1 ≤ s.size <;> by_cases h5 : s.size ≤ 5 <;> simp [h1, h5] <;> omega

set_option maxHeartbeats 400000 in
theorem l1At_any (A : Option Addr) (c : Nat) (xs : List ByteArray) (s : ByteArray) (w : World) (B : Nat) (h : Strs w B A c xs) :
    Calls Try.prog 18 #[.slice A xs.length c, .string s] w fun e w' => e = .returned (.int .i64 (place xs s)) ∧ w = w' := by
  have hl := h.len
  have hc := h.cap
  go_enter Try.func18, Try.ntmps18
  go_wp2
  go_loop [5] (fun i => ∃ k : Nat, k ≤ xs.length ∧ i = .int .i64 k ∧ ∀ j (hj : j < xs.length), j < k → xs[j] ≠ s) (fun i => xs.length - (intOf i).toNat)
  case atStart => exact ⟨0, Nat.zero_le _, rfl, fun j hj h => absurd h (by omega)⟩
  case round =>
    obtain ⟨k, hk, rfl, hall0⟩ := hrel
    have hall := Lib.hid hall0
    clear hall0
    by_cases hlt : k < xs.length
    · obtain ⟨ad, rfl, _, hcell⟩ := h.at_ hlt
      go_wp2
      · have he := str_eq (by assumption : (xs[k].toList == s.toList) = true)
        go_ret
        exact ⟨ret_int (place_at hlt he (fun j hj h => hall.out j hj h)).symm, rfl⟩
      · have he := str_ne (by assumption : (xs[k].toList == s.toList) = false)
        go_round
        case rel => exact ⟨k + 1, by omega, by go_num, fun j hj h => by
          by_cases e : j = k
          · subst e; exact he
          · exact hall.out j hj (by omega)⟩
        case measure => simp [intOf]; omega
    · go_wp2
      go_ret
      exact ⟨ret_int (place_none (fun j hj => hall.out j hj (by omega))).symm, rfl⟩

set_option maxHeartbeats 400000 in
theorem slIndex_any (A : Option Addr) (c : Nat) (xs : List ByteArray) (s : ByteArray) (w : World) (B : Nat) (h : Strs w B A c xs) :
    Calls Try.prog 35 #[.slice A xs.length c, .string s] w fun e w' => e = .returned (.int .i64 (place xs s)) ∧ w = w' := by
  have hl := h.len
  have hc := h.cap
  go_enter Try.func35, Try.ntmps35
  go_wp2
  go_loop [8] (fun i => ∃ k : Nat, k ≤ xs.length ∧ i = .int .i64 k ∧ ∀ j (hj : j < xs.length), j < k → xs[j] ≠ s) (fun i => xs.length - (intOf i).toNat)
  case atStart => exact ⟨0, Nat.zero_le _, rfl, fun j hj h => absurd h (by omega)⟩
  case round =>
    obtain ⟨k, hk, rfl, hall0⟩ := hrel
    have hall := Lib.hid hall0
    clear hall0
    by_cases hlt : k < xs.length
    · obtain ⟨ad, rfl, _, hcell⟩ := h.at_ hlt
      go_wp2
      · have he := (str_eq (by assumption : (s.toList == xs[k].toList) = true)).symm
        go_ret
        exact ⟨ret_int (place_at hlt he (fun j hj h => hall.out j hj h)).symm, rfl⟩
      · have he := (str_ne (by assumption : (s.toList == xs[k].toList) = false)).symm
        go_round
        case rel => exact ⟨k + 1, by omega, by go_num, fun j hj h => by
          by_cases e : j = k
          · subst e; exact he
          · exact hall.out j hj (by omega)⟩
        case measure => simp [intOf]; omega
    · go_wp2
      go_ret
      exact ⟨ret_int (place_none (fun j hj => hall.out j hj (by omega))).symm, rfl⟩

theorem slContains_any (A : Option Addr) (c : Nat) (xs : List ByteArray) (s : ByteArray) (w : World) (B : Nat) (h : Strs w B A c xs) :
    Calls Try.prog 31 #[.slice A xs.length c, .string s] w fun e w' => e = .returned (.bool (has xs s)) ∧ w = w' := by
  by_cases hm : s ∈ xs
  · have hp : 0 ≤ place xs s := place_mem hm
    go_enter Try.func31, Try.ntmps31
    go_wp2_with (go_at_call 35; refine (slIndex_any _ _ _ _ _ _ h).mono ?_; rintro e w' ⟨rfl, rfl⟩)
    go_ret
    exact ⟨ret_bool (has_yes hm).symm, rfl⟩
  · have hp' : place xs s < 0 := by
      rw [place_notMem hm]
      omega
    go_enter Try.func31, Try.ntmps31
    go_wp2_with (go_at_call 35; refine (slIndex_any _ _ _ _ _ _ h).mono ?_; rintro e w' ⟨rfl, rfl⟩)
    go_ret
    exact ⟨ret_bool (by rw [has_place]), rfl⟩

set_option maxHeartbeats 400000 in
theorem iNamesHave_any (A A' : Option Addr) (c c' : Nat) (xs ys : List ByteArray) (w : World) (B B' : Nat) (h : Strs w B A c xs) (h' : Strs w B' A' c' ys) :
    Calls Try.prog 22 #[.slice A xs.length c, .slice A' ys.length c'] w fun e w' => e = .returned (.bool (haveAll xs ys)) ∧ w = w' := by
  have hl := h'.len
  have hc := h'.cap
  go_enter Try.func22, Try.ntmps22
  go_wp2
  go_loop [9] (fun i => ∃ k : Nat, k ≤ ys.length ∧ i = .int .i64 k ∧ ∀ j (hj : j < ys.length), j < k → ys[j] ∈ xs) (fun i => ys.length - (intOf i).toNat)
  case atStart => exact ⟨0, Nat.zero_le _, rfl, fun j hj h => absurd h (by omega)⟩
  case round =>
    obtain ⟨k, hk, rfl, hall0⟩ := hrel
    have hall := Lib.hid hall0
    clear hall0
    by_cases hlt : k < ys.length
    · obtain ⟨ad, rfl, _, hcell⟩ := h'.at_ hlt
      by_cases hm : ys[k] ∈ xs
      · have hb := has_yes hm
        have hm' := Lib.hid hm
        clear hm
        go_wp2_with (go_at_call 31; refine (slContains_any _ _ _ _ _ _ h).mono ?_; rintro e w' ⟨rfl, rfl⟩)
        go_round
        case rel => exact ⟨k + 1, by omega, by go_num, fun j hj h => by
          by_cases e : j = k
          · subst e; exact hm'.out
          · exact hall.out j hj (by omega)⟩
        case measure => simp [intOf]; omega
      · have hb := has_no hm
        have hm' := Lib.hid hm
        clear hm
        go_wp2_with (go_at_call 31; refine (slContains_any _ _ _ _ _ _ h).mono ?_; rintro e w' ⟨rfl, rfl⟩)
        go_ret
        exact ⟨ret_bool (haveAll_bad hlt hm'.out).symm, rfl⟩
    · go_wp2
      go_ret
      exact ⟨ret_bool (haveAll_all (fun j hj => hall.out j hj (by omega))).symm, rfl⟩
set_option maxHeartbeats 400000 in
theorem l1Have_any (A A' : Option Addr) (c c' : Nat) (xs ys : List ByteArray) (w : World) (B B' : Nat) (h : Strs w B A c xs) (h' : Strs w B' A' c' ys) :
    Calls Try.prog 36 #[.slice A xs.length c, .slice A' ys.length c'] w fun e w' => e = .returned (.bool (haveAll xs ys)) ∧ w = w' := by
  have hl := h'.len
  have hc := h'.cap
  go_enter Try.func36, Try.ntmps36
  go_wp2
  go_loop [5] (fun i => ∃ k : Nat, k ≤ ys.length ∧ i = .int .i64 k ∧ ∀ j (hj : j < ys.length), j < k → ys[j] ∈ xs) (fun i => ys.length - (intOf i).toNat)
  case atStart => exact ⟨0, Nat.zero_le _, rfl, fun j hj h => absurd h (by omega)⟩
  case round =>
    obtain ⟨k, hk, rfl, hall0⟩ := hrel
    have hall := Lib.hid hall0
    clear hall0
    by_cases hlt : k < ys.length
    · obtain ⟨ad, rfl, _, hcell⟩ := h'.at_ hlt
      by_cases hm : ys[k] ∈ xs
      · have hb : 0 ≤ place xs ys[k] := place_mem hm
        have hm' := Lib.hid hm
        clear hm
        go_wp2_with (go_at_call 18; refine (l1At_any _ _ _ _ _ _ h).mono ?_; rintro e w' ⟨rfl, rfl⟩)
        go_round
        case rel => exact ⟨k + 1, by omega, by go_num, fun j hj h => by
          by_cases e : j = k
          · subst e; exact hm'.out
          · exact hall.out j hj (by omega)⟩
        case measure => simp [intOf]; omega
      · have hb : place xs ys[k] < 0 := by
          rw [place_notMem hm]
          omega
        have hm' := Lib.hid hm
        clear hm
        go_wp2_with (go_at_call 18; refine (l1At_any _ _ _ _ _ _ h).mono ?_; rintro e w' ⟨rfl, rfl⟩)
        go_ret
        exact ⟨ret_bool (haveAll_bad hlt hm'.out).symm, rfl⟩
    · go_wp2
      go_ret
      exact ⟨ret_bool (haveAll_all (fun j hj => hall.out j hj (by omega))).symm, rfl⟩


end Go.Proofs.Ytdjgpoenlmhonaa
