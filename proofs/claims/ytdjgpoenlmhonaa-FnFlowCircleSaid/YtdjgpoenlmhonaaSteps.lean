/- Contracts of StepValid, program and reference. Condition: lengths as Go has them. -/
import Derived.Test.YtdjgpoenlmhonaaNames
import Derived.Test.YtdjgpoenlmhonaaOrder
import Derived.Deep.QuietTactic
import Derived.BigQuiet
namespace Go.Proofs.Ytdjgpoenlmhonaa
set_option linter.unusedVariables false
set_option maxRecDepth 100000
open Go.RowKit

theorem quiet_left {P : Program} {f : FuncId} {args : Array Value} {w : World} {n : Nat} {v : Value}
    (h : Calls P f args (w.drewN n) fun e w' => e = .returned v ∧ w.drewN n = w') : Calls P f args (w.drewN n) fun e w'' => e = .returned v ∧ ∃ m, w'' = w.drewN m :=
  h.mono fun _ _ ⟨he, hm⟩ => ⟨he, n, hm.symm⟩

set_option maxHeartbeats 400000 in
theorem namesAscend_any (A : Option Addr) (c : Nat) (xs : List ByteArray) (w : World) (B : Nat) (h : Strs w B A c xs) :
    Calls Try.prog 20 #[.slice A xs.length c] w fun e w' => e = .returned (.bool (asc xs)) ∧ w = w' := by
  have hl := h.len
  have hc := h.cap
  go_enter Try.func20, Try.ntmps20
  go_wp2
  go_loop [7] (fun i => ∃ k : Nat, k ≤ xs.length ∧ i = .int .i64 k ∧ ∀ j, (h : j < xs.length) → j < k → nameOk xs[j] = true ∧ (0 < j → blt (xs[j - 1]'(by omega)) xs[j] = true)) (fun i => xs.length - (intOf i).toNat)
  case atStart => exact ⟨0, Nat.zero_le _, rfl, fun j hj h => absurd h (by omega)⟩
  case round =>
    obtain ⟨k, hk, rfl, hall0⟩ := hrel
    have hall := Lib.hid hall0
    clear hall0
    by_cases hlt : k < xs.length
    · obtain ⟨ad, rfl, _, hcell⟩ := h.at_ hlt
      have hsz := h.lens k hlt
      cases hok : nameOk xs[k]
      · go_wp2_with (go_at_call 30; refine (iNameValid_any _ _ hsz).mono ?_; rintro e w' ⟨rfl, rfl⟩)
        go_ret
        exact ⟨ret_bool (asc_bad_name hlt hok).symm, rfl⟩
      · by_cases h0 : 0 < k
        · obtain ⟨ad', e, _, hcell'⟩ := h.at_ (show k - 1 < xs.length by omega)
          injection e with e
          subst e
          have hble := ble_eq xs[k] (xs[k - 1]'(by omega))
          have ek : ((k : Int) - 1).toNat = k - 1 := by omega
          have Hok := Lib.hid hok
          cases hlt2 : blt (xs[k - 1]'(by omega)) xs[k]
          · rw [hlt2] at hble
            have Hlt2 := Lib.hid hlt2
            clear hlt2
            go_wp2_with (go_at_call 30; refine (iNameValid_any _ _ hsz).mono ?_; rintro e w' ⟨rfl, rfl⟩)
            go_ret
            exact ⟨ret_bool (asc_bad_order hlt h0 Hlt2.out).symm, rfl⟩
          · rw [hlt2] at hble
            have Hlt2 := Lib.hid hlt2
            clear hlt2
            go_wp2_with (go_at_call 30; refine (iNameValid_any _ _ hsz).mono ?_; rintro e w' ⟨rfl, rfl⟩)
            go_round
            case rel => exact ⟨k + 1, by omega, by go_num, fun j hj h => by
              by_cases e : j = k
              · subst e; exact ⟨Hok.out, fun _ => Hlt2.out⟩
              · exact hall.out j hj (by omega)⟩
            case measure => simp [intOf]; omega
        · have h00 : k ≤ 0 := by omega
          have Hok := Lib.hid hok
          go_wp2_with (go_at_call 30; refine (iNameValid_any _ _ hsz).mono ?_; rintro e w' ⟨rfl, rfl⟩)
          go_round
          case rel => exact ⟨k + 1, by omega, by go_num, fun j hj h => by
            by_cases e : j = k
            · subst e; exact ⟨Hok.out, fun h' => absurd h' h0⟩
            · exact hall.out j hj (by omega)⟩
          case measure => simp [intOf]; omega
    · go_wp2
      go_ret
      exact ⟨ret_bool (asc_iff.2 (fun j hj => hall.out j hj (by omega))).symm, rfl⟩
set_option maxHeartbeats 400000 in
theorem iStepValid_any (nm : ByteArray) (A : Option Addr) (c : Nat) (xs : List ByteArray) (u : Bool) (w : World) (B : Nat) (h : Strs w B A c xs) (hs : nm.size ≤ 9223372036854775807) :
    Calls Try.prog 21 #[.agg #[.string nm, .slice A xs.length c, .bool u]] w fun e w' => e = .returned (.bool (stepOk nm xs)) ∧ Below w.heap.size w w' := by
  have hl := h.len
  have hc := h.cap
  have ha := fun o => h.fit.alloc (Nat.le_refl _) o
  cases h1 : nameOk nm
  · have hf := Lib.hid (show stepOk nm xs = false by unfold stepOk; rw [h1]; rfl)
    go_enter Try.func21, Try.ntmps21
    go_wp2_with (go_at_call 30; refine (iNameValid_any _ _ hs).mono ?_; rintro e w' ⟨rfl, rfl⟩)
    go_ret
    exact ⟨ret_bool hf.out.symm, (Below.refl _ _).alloc (Nat.le_refl _) _⟩
  · by_cases h4 : xs.length ≤ 4
    · cases h2 : asc xs
      · have hf := Lib.hid (show stepOk nm xs = false by unfold stepOk; rw [h1, h2]; simp)
        go_enter Try.func21, Try.ntmps21
        go_wp2_with (first
          | (go_at_call 30; refine (iNameValid_any _ _ hs).mono ?_; rintro e w' ⟨rfl, rfl⟩)
          | (go_at_call 20; refine (namesAscend_any _ _ _ _ _ (ha _)).mono ?_; rintro e w' ⟨rfl, rfl⟩))
        go_ret
        exact ⟨ret_bool hf.out.symm, (Below.refl _ _).alloc (Nat.le_refl _) _⟩
      · have hf := Lib.hid (show stepOk nm xs = !has xs nm by unfold stepOk; rw [h1, h2]; simp [h4])
        go_enter Try.func21, Try.ntmps21
        go_wp2_with (first
          | (go_at_call 30; refine (iNameValid_any _ _ hs).mono ?_; rintro e w' ⟨rfl, rfl⟩)
          | (go_at_call 20; refine (namesAscend_any _ _ _ _ _ (ha _)).mono ?_; rintro e w' ⟨rfl, rfl⟩)
          | (go_at_call 31; refine (slContains_any _ _ _ _ _ _ (ha _)).mono ?_; rintro e w' ⟨rfl, rfl⟩))
        go_ret
        exact ⟨ret_bool hf.out.symm, (Below.refl _ _).alloc (Nat.le_refl _) _⟩
    · have hf := Lib.hid (show stepOk nm xs = false by unfold stepOk; simp [h4])
      go_enter Try.func21, Try.ntmps21
      go_wp2_with (go_at_call 30; refine (iNameValid_any _ _ hs).mono ?_; rintro e w' ⟨rfl, rfl⟩)
      go_ret
      exact ⟨ret_bool hf.out.symm, (Below.refl _ _).alloc (Nat.le_refl _) _⟩

set_option maxHeartbeats 1000000 in
theorem sStepValid_any (nm : ByteArray) (A : Option Addr) (c : Nat) (xs : List ByteArray) (u : Bool) (w : World) (B : Nat) (h : Strs w B A c xs) (hs : nm.size ≤ 9223372036854775807) :
    Calls Try.prog 27 #[.agg #[.string nm, .slice A xs.length c, .bool u]] w fun e w' => e = .returned (.bool (stepOk nm xs)) ∧ Below w.heap.size w w' := by
  have hl := h.len
  have hc := h.cap
  have ha := h.fit.alloc (Nat.le_refl _) (.cells #[.string nm, .slice A xs.length c, .bool u] 32)
  go_enter Try.func27, Try.ntmps27
  go_wp2
  go_loopw [3] (fun i wr => ∃ k : Nat, k ≤ xs.length ∧ i = .int .i64 k ∧ Below w.heap.size w wr ∧ Strs wr (w.heap.size + 1) A c xs ∧
      (wr.cell? ⟨w.heap.size, 0, none⟩ = some (.string nm) ∧ wr.cell? ⟨w.heap.size, 1, none⟩ = some (.slice A xs.length c)) ∧
      ∀ j, (h : j < xs.length) → j < k → nameOk xs[j] = true ∧ (0 < j → blt (xs[j - 1]'(by omega)) xs[j] = true)) (fun i _ => xs.length - (intOf i).toNat)
  case atStart => exact ⟨0, Nat.zero_le _, rfl, (Below.refl _ _).alloc (Nat.le_refl _) _, ha.more (by omega), ⟨by simp, by simp⟩, fun j hj h => absurd h (by omega)⟩
  case round =>
    obtain ⟨k, hk, rfl, hb, ha, ⟨hc0, hc1⟩, hall0⟩ := hrel
    have hall := Lib.hid hall0
    clear hall0
    by_cases hlt : k < xs.length
    · obtain ⟨ad, rfl, _, hcell⟩ := ha.at_ hlt
      have hsz := h.lens k hlt
      have hi0 : (0 : Int) ≤ k := by omega
      have hi1 : (k : Int) < xs.length := by omega
      cases hok : nameOk xs[k]
      · go_wp2
        go_quiet ((go_at_call 33; exact quiet_left (sNameValid_any _ _ hsz)))
        go_wp2_with fail
        go_ret
        exact ⟨ret_bool (by unfold stepOk; rw [asc_bad_name hlt hok]; simp), bdrewN hb _⟩
      · have Hok := Lib.hid hok
        have Hc := Lib.hid (show wr.cell? ⟨w.heap.size, 0, none⟩ = some (.string nm) ∧ wr.cell? ⟨w.heap.size, 1, none⟩ = some (.slice (some ad) xs.length c) from ⟨hc0, hc1⟩)
        by_cases h0 : 0 < k
        · obtain ⟨ad', e, _, hcell'⟩ := ha.at_ (show k - 1 < xs.length by omega)
          injection e with e
          subst e
          have hd : decide ((0 : Int) < k) = true := by simp; omega
          have hk1 : (0 : Int) ≤ (k : Int) - 1 := by omega
          have hk2 : (1 : Int) ≤ k := by omega
          have hk3 : (k : Int) - 1 < xs.length := by omega
          have hk4 : IntKind.i64.wrap ((k : Int) - 1) = (k : Int) - 1 := IntWalk.i64_in _ (by omega)
          have hk5 : ((k : Int) - 1).toNat = k - 1 := by omega
          cases hlt2 : blt (xs[k - 1]'(by omega)) xs[k]
          · have hge : Op.bytesLess (xs[k - 1]'(by omega)).toList xs[k].toList = false := hlt2
            have Hlt2 := Lib.hid hlt2
            clear hlt2
            go_wp2
            go_quiet ((go_at_call 33; exact quiet_left (sNameValid_any _ _ hsz)))
            go_wp2_with fail
            go_ret
            exact ⟨ret_bool (by unfold stepOk; rw [asc_bad_order hlt h0 Hlt2.out]; simp), bdrewN hb _⟩
          · have hge : Op.bytesLess (xs[k - 1]'(by omega)).toList xs[k].toList = true := hlt2
            have Hlt2 := Lib.hid hlt2
            clear hlt2
            go_wp2
            go_quiet ((go_at_call 33; exact quiet_left (sNameValid_any _ _ hsz)))
            go_wp2_with fail
            go_roundw
            case rel => exact ⟨k + 1, by omega, by go_num, bdrewN hb _, ha.drewN _, ⟨Hc.out.1, Hc.out.2⟩, fun j hj h => by
              by_cases e : j = k
              · subst e; exact ⟨Hok.out, fun _ => Hlt2.out⟩
              · exact hall.out j hj (by omega)⟩
            case measure => simp [intOf]; omega
        · have h00 : k ≤ 0 := by omega
          have hd : decide ((0 : Int) < k) = false := by simp; omega
          go_wp2
          go_quiet ((go_at_call 33; exact quiet_left (sNameValid_any _ _ hsz)))
          go_wp2_with fail
          go_roundw
          case rel => exact ⟨k + 1, by omega, by go_num, bdrewN hb _, ha.drewN _, ⟨Hc.out.1, Hc.out.2⟩, fun j hj h => by
            by_cases e : j = k
            · subst e; exact ⟨Hok.out, fun h' => absurd h' h0⟩
            · exact hall.out j hj (by omega)⟩
          case measure => simp [intOf]; omega
    · have hasc : asc xs = true := asc_iff.2 (fun j hj => hall.out j hj (by omega))
      have Hasc := Lib.hid hasc
      clear hasc
      cases h1 : nameOk nm
      · go_wp2_with (go_at_call 33; refine (sNameValid_any _ _ hs).mono ?_; rintro e w' ⟨rfl, rfl⟩)
        go_ret
        exact ⟨ret_bool (by unfold stepOk; rw [h1]; rfl), hb⟩
      · by_cases hm : nm ∈ xs
        · have hp : 0 ≤ place xs nm := place_mem hm
          have Hm := Lib.hid (has_yes hm)
          clear hm
          go_wp2_with (first
            | (go_at_call 33; refine (sNameValid_any _ _ hs).mono ?_; rintro e w' ⟨rfl, rfl⟩)
            | (go_at_call 18; refine (l1At_any _ _ _ _ _ _ ha).mono ?_; rintro e w' ⟨rfl, rfl⟩))
          go_ret
          exact ⟨ret_bool (by unfold stepOk; rw [Hm.out]; simp), hb⟩
        · have hp : place xs nm < 0 := by rw [place_notMem hm]; omega
          have Hm := Lib.hid (has_no hm)
          clear hm
          go_wp2_with (first
            | (go_at_call 33; refine (sNameValid_any _ _ hs).mono ?_; rintro e w' ⟨rfl, rfl⟩)
            | (go_at_call 18; refine (l1At_any _ _ _ _ _ _ ha).mono ?_; rintro e w' ⟨rfl, rfl⟩))
          go_ret
          exact ⟨ret_bool (by unfold stepOk; rw [Hm.out, Hasc.out, h1]; simp [decide_eq_decide]; omega), hb⟩
end Go.Proofs.Ytdjgpoenlmhonaa
