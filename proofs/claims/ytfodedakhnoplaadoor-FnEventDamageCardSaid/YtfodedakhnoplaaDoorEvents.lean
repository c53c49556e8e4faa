/- Contracts of EventsValid, program and reference. Condition: lengths as Go has them. -/
import Derived.Test.YtfodedakhnoplaaDoorNames
import Derived.Test.YtfodedakhnoplaaDoorEvWords
namespace Go.Proofs.YtfodedakhnoplaaDoor
set_option linter.unusedVariables false
set_option maxRecDepth 100000
open Go.RowKit

set_option maxHeartbeats 400000 in
theorem eventValid_any (k : Int) (s : ByteArray) (w : World) (hs : s.size ≤ 9223372036854775807) :
    Calls Tryd.prog 23 #[.agg #[.int .i64 k, .string s]] w fun e w' => e = .returned (.bool (evOk ⟨k, s⟩)) ∧ Below w.heap.size w w' := by
  by_cases h1 : 1 ≤ k
  · by_cases h3 : k ≤ 3
    · go_enter Tryd.func23, Tryd.ntmps23
      go_wp2_with (go_at_call 37; refine (iNameValid_any _ _ hs).mono ?_; rintro e w' ⟨rfl, rfl⟩)
      go_ret
      exact ⟨ret_bool (by simp [evOk, h1, h3]), (Below.refl _ _).alloc (Nat.le_refl _) _⟩
    · go_enter Tryd.func23, Tryd.ntmps23
      go_wp2_with (go_at_call 37; refine (iNameValid_any _ _ hs).mono ?_; rintro e w' ⟨rfl, rfl⟩)
      go_ret
      exact ⟨ret_bool (by have : ¬ k ≤ 3 := by omega
                          simp [evOk, this]), (Below.refl _ _).alloc (Nat.le_refl _) _⟩
  · go_enter Tryd.func23, Tryd.ntmps23
    go_wp2_with (go_at_call 37; refine (iNameValid_any _ _ hs).mono ?_; rintro e w' ⟨rfl, rfl⟩)
    go_ret
    exact ⟨ret_bool (by have : ¬ 1 ≤ k := by omega
                        simp [evOk, this]), (Below.refl _ _).alloc (Nat.le_refl _) _⟩

set_option maxHeartbeats 400000 in
theorem iEventsValid_any (A : Option Addr) (c : Nat) (es : List Ev) (w : World) (B : Nat) (h : Evs w B A c es) :
    Calls Tryd.prog 32 #[.slice A es.length c] w fun e w' => e = .returned (.bool (evsOk es)) ∧ Below w.heap.size w w' := by
  have hl := h.len
  have hc := h.cap
  go_enter Tryd.func32, Tryd.ntmps32
  go_wp2
  go_loopw [7] (fun i wr => ∃ k : Nat, k ≤ es.length ∧ i = .int .i64 k ∧ Below w.heap.size w wr ∧ ∀ j (hj : j < es.length), j < k → evOk es[j] = true) (fun i _ => es.length - (intOf i).toNat)
  case atStart => exact ⟨0, Nat.zero_le _, rfl, Below.refl _ _, fun j hj h => absurd h (by omega)⟩
  case round =>
    obtain ⟨k, hk, rfl, hb, hall0⟩ := hrel
    have hall := Lib.hid hall0
    clear hall0
    by_cases hlt : k < es.length
    · obtain ⟨ad, rfl, _, hcell, hcell1⟩ := (h.then_ hb).at_ hlt
      have hsz := h.lens k hlt
      cases hok : evOk ⟨es[k].kind, es[k].name⟩
      · go_wp2_with fail
        refine (eventValid_any _ _ _ hsz).mono ?_
        rintro e w1 ⟨rfl, hb1⟩
        go_wp2_with fail
        go_ret
        exact ⟨ret_bool (evsOk_bad hlt hok).symm, bthen (hb.alloc hb.size _) hb1⟩
      · go_wp2_with fail
        refine (eventValid_any _ _ _ hsz).mono ?_
        rintro e w1 ⟨rfl, hb1⟩
        go_wp2_with fail
        go_roundw
        case rel => exact ⟨k + 1, by omega, by go_num, bthen (hb.alloc hb.size _) hb1, fun j hj h => by
          by_cases e : j = k
          · subst e; exact hok
          · exact hall.out j hj (by omega)⟩
        case measure => simp [intOf]; omega
    · have hfin := Lib.hid (evsOk_end (es := es) (fun j hj => hall.out j hj (by omega)))
      go_wp2
      go_ret
      exact ⟨ret_bool (by rw [hfin.out]; simp [decide_eq_decide]; omega), hb⟩

set_option maxHeartbeats 400000 in
theorem sEventsValid_any (A : Option Addr) (c : Nat) (es : List Ev) (w : World) (B : Nat) (h : Evs w B A c es) :
    Calls Tryd.prog 31 #[.slice A es.length c] w fun e w' => e = .returned (.bool (evsOk es)) ∧ w = w' := by
  have hl := h.len
  have hc := h.cap
  go_enter Tryd.func31, Tryd.ntmps31
  go_wp2
  go_loop [3] (fun i => ∃ k : Nat, k ≤ es.length ∧ i = .int .i64 k ∧ ∀ j (hj : j < es.length), j < k → evOk es[j] = true) (fun i => es.length - (intOf i).toNat)
  case atStart => exact ⟨0, Nat.zero_le _, rfl, fun j hj h => absurd h (by omega)⟩
  case round =>
    obtain ⟨k, hk, rfl, hall0⟩ := hrel
    have hall := Lib.hid hall0
    clear hall0
    by_cases hlt : k < es.length
    · obtain ⟨ad, rfl, _, hcell, hcell1⟩ := h.at_ hlt
      have hsz := h.lens k hlt
      by_cases hkd : 1 ≤ es[k].kind ∧ es[k].kind ≤ 3
      · obtain ⟨hk1, hk3⟩ := hkd
        have hev := Lib.hid (show evOk es[k] = nameOk es[k].name by simp [evOk, hk1, hk3])
        cases hok : nameOk es[k].name
        · go_wp2_with fail
          refine (in_any _ _ _ _).mono ?_
          rintro e w1 ⟨rfl, rfl⟩
          go_wp2_with fail
          refine (sNameValid_any _ _ hsz).mono ?_
          rintro e w1 ⟨rfl, rfl⟩
          go_wp2_with fail
          go_ret
          exact ⟨ret_bool (evsOk_bad hlt (by rw [hev.out, hok])).symm, rfl⟩
        · go_wp2_with fail
          refine (in_any _ _ _ _).mono ?_
          rintro e w1 ⟨rfl, rfl⟩
          go_wp2_with fail
          refine (sNameValid_any _ _ hsz).mono ?_
          rintro e w1 ⟨rfl, rfl⟩
          go_wp2_with fail
          go_round
          case rel => exact ⟨k + 1, by omega, by go_num, fun j hj h => by
            by_cases e : j = k
            · subst e; rw [hev.out, hok]
            · exact hall.out j hj (by omega)⟩
          case measure => simp [intOf]; omega
      · have hin : (decide (1 ≤ es[k].kind) && decide (es[k].kind ≤ 3)) = false := by
          by_cases h1 : 1 ≤ es[k].kind
          · have : ¬ es[k].kind ≤ 3 := fun h => hkd ⟨h1, h⟩
            simp [this]
          · simp [h1]
        have hev : evOk es[k] = false := by unfold evOk; rw [hin]; rfl
        have Hev := Lib.hid hev
        clear hev hkd
        go_wp2_with fail
        refine (in_any _ _ _ _).mono ?_
        rintro e w1 ⟨rfl, rfl⟩
        rw [hin]
        go_wp2_with fail
        go_ret
        exact ⟨ret_bool (evsOk_bad hlt Hev.out).symm, rfl⟩
    · have hfin := Lib.hid (evsOk_end (es := es) (fun j hj => hall.out j hj (by omega)))
      go_wp2
      go_ret
      exact ⟨ret_bool (by rw [hfin.out]; simp [decide_eq_decide]; omega), rfl⟩
end Go.Proofs.YtfodedakhnoplaaDoor
