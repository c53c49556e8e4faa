/- Contracts of the functions on names: NameValid (program and reference), slices.Index, slices.Contains, l1At, NamesHave, l1Have, l6In. Condition: lengths as Go has them. -/
import Derived.Test.YtfodedakhnoplaaDoorRows
import Derived.WalkKit
import Derived.WalkSpells
import Derived.WalkLawsBesides
import Derived.Test.YtfodedakhnoplaaDoorPlain
import Derived.Test.YtfodedakhnoplaaDoorWords
namespace Go.Proofs.YtfodedakhnoplaaDoor
set_option linter.unusedVariables false
set_option maxRecDepth 100000
open Go.RowKit

set_option maxHeartbeats 400000 in
theorem iNameValid_any (s : ByteArray) (w : World) (hs : s.size ≤ 9223372036854775807) :
    Calls Tryd.prog 37 #[.string s] w fun e w' => e = .returned (.bool (nameOk s)) ∧ w = w' := by
  by_cases h1 : s.size < 1
  · go_enter Tryd.func37, Tryd.ntmps37
    go_wp2
    go_ret
    exact ⟨ret_bool (nameOk_len (.inl h1)).symm, rfl⟩
  · by_cases h5 : 5 < s.size
    · go_enter Tryd.func37, Tryd.ntmps37
      go_wp2
      go_ret
      exact ⟨ret_bool (nameOk_len (.inr h5)).symm, rfl⟩
    · go_enter Tryd.func37, Tryd.ntmps37
      go_wp2
      go_loop [14] (fun i => ∃ k : Nat, k ≤ s.size ∧ i = .int .i64 k ∧ ∀ j (hj : j < s.size), j < k → isLow s[j] = true) (fun i => s.size - (intOf i).toNat)
      case atStart => exact ⟨0, Nat.zero_le _, rfl, fun j hj h => absurd h (by omega)⟩
      case round =>
        obtain ⟨k, hk, rfl, hall0⟩ := hrel
        have hall := Lib.hid hall0
        clear hall0
        by_cases hlt : k < s.size
        · go_wp2
          · go_ret
            exact ⟨ret_bool (nameOk_bad hlt (.inr (by omega))).symm, rfl⟩
          · go_round
            case rel => exact ⟨k + 1, by omega, by go_num, fun j hj h => by
              by_cases e : j = k
              · subst e; exact isLow_of ⟨by omega, by omega⟩
              · exact hall.out j hj (by omega)⟩
            case measure => simp [intOf]; omega
          · go_ret
            exact ⟨ret_bool (nameOk_bad hlt (.inl (by omega))).symm, rfl⟩
        · go_wp2
          go_ret
          exact ⟨ret_bool (nameOk_all (by omega) (by omega) (fun j hj => hall.out j hj (by omega))).symm, rfl⟩

theorem in_any (n a b : Int) (w : World) :
    Calls Tryd.prog 18 #[.int .i64 n, .int .i64 a, .int .i64 b] w fun e w' => e = .returned (.bool (decide (a ≤ n) && decide (n ≤ b))) ∧ w = w' := by
  by_cases h : a ≤ n
  · go_enter Tryd.func18, Tryd.ntmps18
    go_wp2
    go_ret
    exact ⟨ret_bool (by simp [h]), rfl⟩
  · go_enter Tryd.func18, Tryd.ntmps18
    go_wp2
    go_ret
    exact ⟨ret_bool (by have h' : ¬ a ≤ n := by omega
                        simp [h']), rfl⟩

set_option maxHeartbeats 400000 in
theorem sNameValid_any (s : ByteArray) (w : World) (hs : s.size ≤ 9223372036854775807) :
    Calls Tryd.prog 36 #[.string s] w fun e w' => e = .returned (.bool (nameOk s)) ∧ w = w' := by
  go_enter Tryd.func36, Tryd.ntmps36
  go_wp2
  go_loop [3] (fun i => ∃ k : Nat, k ≤ s.size ∧ i = .int .i64 k ∧ ∀ j (hj : j < s.size), j < k → isLow s[j] = true) (fun i => s.size - (intOf i).toNat)
  case atStart => exact ⟨0, Nat.zero_le _, rfl, fun j hj h => absurd h (by omega)⟩
  case round =>
    obtain ⟨k, hk, rfl, hall0⟩ := hrel
    have hall := Lib.hid hall0
    clear hall0
    by_cases hlt : k < s.size
    · go_wp2
      · go_ret
        exact ⟨ret_bool (nameOk_bad hlt (.inr (by omega))).symm, rfl⟩
      · go_round
        case rel => exact ⟨k + 1, by omega, by go_num, fun j hj h => by
          by_cases e : j = k
          · subst e; exact isLow_of ⟨by omega, by omega⟩
          · exact hall.out j hj (by omega)⟩
        case measure => simp [intOf]; omega
      · go_ret
        exact ⟨ret_bool (nameOk_bad hlt (.inl (by omega))).symm, rfl⟩
    · go_wp2_with (go_at_call 18; refine (in_any _ _ _ _).mono ?_; rintro e w' ⟨rfl, rfl⟩)
      go_ret
      refine ⟨ret_bool ?_, rfl⟩
      have := allLow_all (s := s) (fun j hj => hall.out j hj (by omega))
      unfold nameOk
      rw [this]
      by_cases h1 : 1 ≤ s.size <;> by_cases h5 : s.size ≤ 5 <;> simp [h1, h5] <;> omega

end Go.Proofs.YtfodedakhnoplaaDoor
