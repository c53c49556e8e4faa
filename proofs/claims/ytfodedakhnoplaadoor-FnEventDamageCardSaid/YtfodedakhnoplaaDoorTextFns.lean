/- Contracts of the functions on the lines of events: checks, digits, kinds. Condition: lengths as Go has them. -/
import Derived.Test.YtfodedakhnoplaaDoorTextPlain
import Derived.Test.YtfodedakhnoplaaDoorEvents
import Derived.Laws.BytesArg
import Derived.Deep.RegionWith
import Derived.Deep.RegionLaw
import Derived.Deep.RegionHeld3
namespace Go.Proofs.YtfodedakhnoplaaDoor
set_option linter.unusedVariables false
set_option maxRecDepth 100000
open Go.RowKit

theorem sum_all {s : ByteArray} : sumGo 17 (s.data.toList.take s.size) = sumB s := by
  unfold sumB
  rw [List.take_of_length_le (by rw [size_toList]; exact Nat.le_refl _)]

set_option maxHeartbeats 1000000 in
theorem checkOf_any (s : ByteArray) (w : World) (hs : s.size ≤ 9223372036854775807) :
    Calls Tryd.prog 25 #[.string s] w fun e w' => e = .returned (.int .i64 (sumB s)) ∧ w = w' := by
  go_enter Tryd.func25, Tryd.ntmps25
  go_wp2
  go_loop [3, 7] (fun c i => ∃ k : Nat, k ≤ s.size ∧ i = .int .i64 k ∧ c = .int .i64 (sumGo 17 (s.data.toList.take k))) (fun _ i => s.size - (intOf i).toNat)
  case atStart => exact ⟨0, Nat.zero_le _, rfl, rfl⟩
  case round =>
    obtain ⟨k, hk, rfl, rfl⟩ := hrel
    have hc := sumGo_lt (s.data.toList.take k) 17 (by decide)
    by_cases hlt : k < s.size
    · have Hn := Lib.hid (sum_next hlt)
      generalize sumGo 17 (s.data.toList.take k) = c at *
      have hb : s[k].toNat < 256 := UInt8.toNat_lt _
      go_wp2
      go_round
      case rel => exact ⟨k + 1, by omega, by go_num, by rw [Hn.out]; go_num⟩
      case measure => simp [intOf]; omega
    · have hke : k = s.size := by omega
      subst hke
      rw [sum_all]
      go_wp2
      go_ret
      exact ⟨rfl, rfl⟩

set_option maxHeartbeats 1000000 in
theorem l5Sum_any (s : ByteArray) (w : World) (hs : s.size ≤ 9223372036854775807) :
    Calls Tryd.prog 22 #[.string s] w fun e w' => e = .returned (.int .i64 (sumB s)) ∧ w = w' := by
  go_enter Tryd.func22, Tryd.ntmps22
  go_wp2
  go_loop [3, 4] (fun c i => ∃ k : Nat, k ≤ s.size ∧ i = .int .i64 k ∧ c = .int .i64 (sumGo 17 (s.data.toList.take k))) (fun _ i => s.size - (intOf i).toNat)
  case atStart => exact ⟨0, Nat.zero_le _, rfl, rfl⟩
  case round =>
    obtain ⟨k, hk, rfl, rfl⟩ := hrel
    have hc := sumGo_lt (s.data.toList.take k) 17 (by decide)
    by_cases hlt : k < s.size
    · have Hn := Lib.hid (sum_next hlt)
      generalize sumGo 17 (s.data.toList.take k) = c at *
      have hb : s[k].toNat < 256 := UInt8.toNat_lt _
      go_wp2
      go_round
      case rel => exact ⟨k + 1, by omega, by go_num, by rw [Hn.out]; go_num⟩
      case measure => simp [intOf]; omega
    · have hke : k = s.size := by omega
      subst hke
      rw [sum_all]
      go_wp2
      go_ret
      exact ⟨rfl, rfl⟩

theorem l5Kind_any (k : Int) (w : World) : Calls Tryd.prog 21 #[.int .i64 k] w fun e w' => e = .returned (.string (kindB k)) ∧ w = w' := by
  by_cases h1 : k = 1
  · subst h1
    go_enter Tryd.func21, Tryd.ntmps21
    go_wp2
    go_ret
    exact ⟨rfl, rfl⟩
  · have e1 : (k == 1) = false := beq_eq_false_iff_ne.2 h1
    by_cases h2 : k = 2
    · subst h2
      go_enter Tryd.func21, Tryd.ntmps21
      go_wp2
      go_ret
      exact ⟨rfl, rfl⟩
    · have e2 : (k == 2) = false := beq_eq_false_iff_ne.2 h2
      have hk : kindB k = undidB := by unfold kindB; rw [if_neg h1, if_neg h2]
      have Hk := Lib.hid hk
      clear hk
      go_enter Tryd.func21, Tryd.ntmps21
      go_wp2
      go_ret
      exact ⟨by rw [Hk.out]; rfl, rfl⟩

set_option maxHeartbeats 400000 in
theorem l5Ok_any (k : Int) (s : ByteArray) (w : World) (hs : s.size ≤ 9223372036854775807) :
    Calls Tryd.prog 19 #[.agg #[.int .i64 k, .string s]] w fun e w' => e = .returned (.bool (evOk ⟨k, s⟩)) ∧ Below w.heap.size w w' := by
  by_cases h1 : 1 ≤ k ∧ k ≤ 3
  · have hd : (decide (1 ≤ k) && decide (k ≤ 3)) = true := by simp [h1]
    go_enter Tryd.func19, Tryd.ntmps19
    go_wp2_with fail
    (with_reducible refine (in_any k 1 3 _).mono ?_)
    rintro e w' ⟨rfl, rfl⟩
    rw [hd]
    go_wp2_with (go_at_call 36; refine (sNameValid_any _ _ hs).mono ?_; rintro e w' ⟨rfl, rfl⟩)
    go_ret
    exact ⟨ret_bool (by simp [evOk, h1.1, h1.2]), (Below.refl _ _).alloc (Nat.le_refl _) _⟩
  · have hd : (decide (1 ≤ k) && decide (k ≤ 3)) = false := by
      rcases Classical.em (1 ≤ k) with h | h
      · have : ¬ k ≤ 3 := fun h3 => h1 ⟨h, h3⟩
        simp [this]
      · simp [h]
    have hf : evOk ⟨k, s⟩ = false := by unfold evOk; rw [hd]; rfl
    have Hf := Lib.hid hf
    clear hf
    go_enter Tryd.func19, Tryd.ntmps19
    go_wp2_with fail
    (with_reducible refine (in_any k 1 3 _).mono ?_)
    rintro e w' ⟨rfl, rfl⟩
    rw [hd]
    go_wp2_with fail
    go_ret
    exact ⟨ret_bool Hf.out.symm, (Below.refl _ _).alloc (Nat.le_refl _) _⟩
end Go.Proofs.YtfodedakhnoplaaDoor
