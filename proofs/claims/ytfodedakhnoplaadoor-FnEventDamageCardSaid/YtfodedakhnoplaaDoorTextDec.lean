/- Contract of the reference's digits of a number. Condition: the number is small. -/
import Derived.Test.YtfodedakhnoplaaDoorTextFns
import Derived.Deep.DeepCutAuto
namespace Go.Proofs.YtfodedakhnoplaaDoor
set_option linter.unusedVariables false
set_option maxRecDepth 100000
open Go.RowKit

theorem conv_digit (W : World) (b d : Nat) (hd : d < 10) (hc : W.cell? ⟨b, 0, none⟩ = some (.int .u8 (48 + (d : Int)))) :
    (convert 29 9 (.slice (some ⟨b, 0, none⟩) 1 1)).run Tryd.prog W = .ok (.string ⟨#[UInt8.ofNat (48 + d)]⟩) W := by
  have h := run_convert_bytes_arg (P := Tryd.prog) W 29 5 Tryd.underlying29 Tryd.underlying5 b 0 1 1 [48 + (d : Int)] rfl
    (fun i hi => by
      obtain rfl : i = 0 := by omega
      exact hc) 9 Tryd.underlying9
  have es : strOfNums [48 + (d : Int)] = ⟨#[UInt8.ofNat (48 + d)]⟩ := by
    have : (48 + (d : Int)).toNat = 48 + d := by omega
    simp [strOfNums, this]
  rw [es] at h
  exact h

set_option maxHeartbeats 4000000 in
theorem l6Dec_any : ∀ n : Nat, n < 10000 → ∀ w : World, Calls Tryd.prog 20 #[.int .i64 n] w fun e w' => e = .returned (.string (decB n)) ∧ Below w.heap.size w w' := by
  intro n
  induction n using Nat.strongRecOn with
  | _ n ih =>
    intro hn w
    by_cases h : n < 10
    · have hcv := conv_digit (w.alloc (.cells #[.int .u8 (48 + (n : Int))] 5)) w.heap.size n h (cell_new1 _ _ _)
      rw [← decB_one h] at hcv
      go_enter Tryd.func20, Tryd.ntmps20
      go_wp2_with fail
      go_ret
      exact ⟨rfl, (Below.refl _ _).alloc (Nat.le_refl _) _⟩
    · have hm : (0 : Int) ≤ (n : Int) % 10 := Int.emod_nonneg _ (by omega)
      have hm1 : (n : Int) % 10 < 10 := Int.emod_lt_of_pos _ (by omega)
      have hd10 : n % 10 < 10 := by omega
      have HK := Lib.hid (show ∀ wq, Calls Tryd.prog 20 #[.int .i64 ((n : Int) / 10)] wq fun e w' => e = .returned (.string (decB (n / 10))) ∧ Below wq.heap.size wq w' from fun wq => by
        rw [show (n : Int) / 10 = ((n / 10 : Nat) : Int) by omega]
        exact ih (n / 10) (by omega) (by omega) wq)
      have HD := Lib.hid (decB_more h)
      have hsz := decB_size (n / 10)
      have HCV := Lib.hid (fun W b (hc : W.cell? ⟨b, 0, none⟩ = some (.int .u8 (48 + (n : Int) % 10))) => conv_digit W b (n % 10) hd10 (by rw [hc, Int.natCast_emod n 10]; rfl))
      obtain ⟨D, hD⟩ : ∃ D, D = decB (n / 10) := ⟨_, rfl⟩
      obtain ⟨C, hC⟩ : ∃ C : ByteArray, C = ⟨#[UInt8.ofNat (48 + n % 10)]⟩ := ⟨_, rfl⟩
      have hCs : C.size = 1 := by rw [hC]; rfl
      have hCs1 : C.size ≤ 1 := by omega
      have hDs : D.size ≤ 1001 := by rw [hD]; omega
      rw [← hD] at HK HD
      rw [← hC] at HCV HD
      clear hD hC hCs ih hsz
      have hw1 : IntKind.i64.wrap ((n : Int) / 10) = (n : Int) / 10 := IntWalk.i64_in _ (by omega)
      have hw2 : (n : Int).tmod 10 = (n : Int) % 10 := Int.tmod_eq_emod_of_nonneg (by omega)
      have hw3 : IntKind.i64.wrap (48 + (n : Int) % 10) = 48 + (n : Int) % 10 := IntWalk.i64_in _ (by omega)
      have hw4 : IntKind.u8.wrap (48 + (n : Int) % 10) = 48 + (n : Int) % 10 := by rw [IntKind.wrap_u8]; omega
      have c1 := HCV.out (w.alloc (.cells #[.int .u8 (48 + (n : Int) % 10)] 5)).drew w.heap.size (cell_new1 w _ _)
      go_enter Tryd.func20, Tryd.ntmps20
      go_upto_region 7 with fail
      go_region_with (first
        | (go_at_call 20; (with_reducible refine (HK.out w.drew).mono ?_); rintro e w1 ⟨rfl, hb1⟩; have c2 := HCV.out (w1.alloc (.cells #[.int .u8 (48 + (n : Int) % 10)] 5)) w1.heap.size (cell_new1 w1 _ _); have hb9 := Lib.hid (show Below w.heap.size w (w1.alloc (.cells #[.int .u8 (48 + (n : Int) % 10)] 5)) from (show Below w.heap.size w w1 from ⟨hb1.os, hb1.tape, hb1.output, hb1.size, hb1.block⟩).alloc hb1.size _))
        | (go_at_call 20; (with_reducible refine (HK.out (w.alloc (.cells #[.int .u8 (48 + (n : Int) % 10)] 5)).drew).mono ?_); rintro e w1 ⟨rfl, hb1⟩; have c3 := HCV.out w1 w.heap.size ((hb1.cell (p := ⟨w.heap.size, 0, none⟩) (by show w.heap.size < (w.alloc _).heap.size; simp)).trans (cell_new1 w _ _)); have hb9 := Lib.hid (show Below w.heap.size w w1 from ((Below.refl _ _).alloc (Nat.le_refl _) _).trans ((show Below (w.alloc (.cells #[.int .u8 (48 + (n : Int) % 10)] 5)).heap.size (w.alloc (.cells #[.int .u8 (48 + (n : Int) % 10)] 5)) w1 from ⟨hb1.os, hb1.tape, hb1.output, hb1.size, hb1.block⟩).mono (by simp)))))
      all_goals
        go_wp2_with fail
        go_ret
        exact ⟨by rw [HD.out]; rfl, hb9.out⟩
end Go.Proofs.YtfodedakhnoplaaDoor
