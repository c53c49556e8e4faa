/- Contract of the reference's EventText. Condition: lengths as Go has them. -/
import Derived.Test.YtfodedakhnoplaaDoorTextDec
import Derived.Deep.DeepCutAuto
import Derived.Deep.RegionHeld3
namespace Go.Proofs.YtfodedakhnoplaaDoor
set_option linter.unusedVariables false
set_option maxRecDepth 100000
open Go.RowKit

set_option maxHeartbeats 4000000 in
theorem sEventText_any (n k : Int) (nm : ByteArray) (w : World) (hs : nm.size ≤ 9223372036854775807) :
    Calls Tryd.prog 8 #[.int .i64 n, .agg #[.int .i64 k, .string nm]] w fun e w' => e = .returned (.string (textB n k nm)) ∧ Below w.heap.size w w' := by
  have b0 : Below w.heap.size w (w.alloc (.cells #[.int .i64 k, .string nm] 26)) := (Below.refl _ _).alloc (Nat.le_refl _) _
  cases hok : lineOk n k nm
  · have Hf := Lib.hid (textB_no hok)
    by_cases h1 : 1 ≤ n ∧ n ≤ 20
    · have hd : (decide (1 ≤ n) && decide (n ≤ 20)) = true := by simp [h1]
      have hev : evOk ⟨k, nm⟩ = false := by
        unfold lineOk at hok
        rw [hd] at hok
        simpa using hok
      clear hok
      go_enter Tryd.func8, Tryd.ntmps8
      go_wp2_with fail
      (with_reducible refine (in_any n 1 20 _).mono ?_)
      rintro e w' ⟨rfl, rfl⟩
      rw [hd]
      go_wp2_with fail
      (with_reducible refine (l5Ok_any k nm _ hs).mono ?_)
      rintro e w1 ⟨rfl, hb1⟩
      rw [hev]
      go_wp2_with fail
      go_ret
      exact ⟨by rw [Hf.out]; rfl, bthen b0 hb1⟩
    · have hd : (decide (1 ≤ n) && decide (n ≤ 20)) = false := by
        rcases Classical.em (1 ≤ n) with h | h
        · have : ¬ n ≤ 20 := fun h3 => h1 ⟨h, h3⟩
          simp [this]
        · simp [h]
      clear hok
      go_enter Tryd.func8, Tryd.ntmps8
      go_wp2_with fail
      (with_reducible refine (in_any n 1 20 _).mono ?_)
      rintro e w' ⟨rfl, rfl⟩
      rw [hd]
      go_wp2_with fail
      go_ret
      exact ⟨by rw [Hf.out]; rfl, b0⟩
  · have Hf := Lib.hid (textB_yes hok)
    obtain ⟨h1, h20, hev⟩ := lineOk_parts hok
    obtain ⟨k1, k3, hnm⟩ := evOk_parts hev
    have hn5 := (nameOk_size hnm).2
    have hd : (decide (1 ≤ n) && decide (n ≤ 20)) = true := by simp [h1, h20]
    clear hok hnm
    obtain ⟨m, rfl⟩ := Int.eq_ofNat_of_zero_le (show 0 ≤ n by omega)
    go_enter Tryd.func8, Tryd.ntmps8
    go_wp2_with fail
    (with_reducible refine (in_any m 1 20 _).mono ?_)
    rintro e w' ⟨rfl, rfl⟩
    rw [hd]
    go_wp2_with fail
    (with_reducible refine (l5Ok_any k nm _ hs).mono ?_)
    rintro e w1 ⟨rfl, hb1⟩
    rw [hev]
    have b1 := bthen b0 hb1
    obtain ⟨p0, p1⟩ := (Cell2.new w (.int .i64 k) (.string nm) 26).then_ hb1
    have hwl : w.heap.size < w1.heap.size := by have := hb1.size; simp at this; omega
    have hks := kindB_size k
    have hds := decB_size m
    obtain ⟨D, hD⟩ : ∃ D, D = decB m := ⟨_, rfl⟩
    obtain ⟨kw, hkk⟩ : ∃ kw, kw = kindB k := ⟨_, rfl⟩
    have KI0 : Calls Tryd.prog 20 #[.int .i64 m] w1.drew fun e w' => e = .returned (.string D) ∧ Below w1.heap.size w1 w' ∧ (w'.cell? ⟨w.heap.size, 0, none⟩ = some (.int .i64 k) ∧ w'.cell? ⟨w.heap.size, 1, none⟩ = some (.string nm)) := (l6Dec_any m (by omega) w1.drew).mono (by
      rintro e w' ⟨he, hb⟩
      have hb' : Below w1.heap.size w1 w' := ⟨hb.os, hb.tape, hb.output, hb.size, hb.block⟩
      exact ⟨he.trans (by rw [hD]), hb', (hb'.cell (p := ⟨w.heap.size, 0, none⟩) hwl).trans p0, (hb'.cell (p := ⟨w.heap.size, 1, none⟩) hwl).trans p1⟩)
    have KI := Lib.hid KI0
    have KK := Lib.hid (fun wq => (l5Kind_any k wq).mono (fun e w' ⟨h1, h2⟩ => (⟨h1.trans (by rw [hkk]), h2⟩ : e = Ending.returned (.string kw) ∧ wq = w')))
    rw [← hD] at hds
    rw [← hkk] at hks
    have HD := Lib.hid hD
    have Hk := Lib.hid hkk
    have hds : D.size ≤ 21 := by omega
    have hb0 : ¬ 9223372036854775807 < D.size + 1 := by omega
    have hb2 : ¬ 9223372036854775807 < D.size + 1 + kw.size := by omega
    have hb3 : ¬ 9223372036854775807 < D.size + 1 + kw.size + 1 := by omega
    have hb4 : ¬ 9223372036854775807 < D.size + 1 + kw.size + 1 + nm.size := by omega
    clear KI0 hD hkk hev hd b0 hwl
    go_upto_region 3 with fail
    go_cut [5] (fun t wx => t = .string (D ++ ⟨#[32]⟩ ++ kw ++ ⟨#[32]⟩ ++ nm) ∧ Below w1.heap.size w1 wx)
    case first =>
      go_wp2_with fail
      go_region_held3 (fun w' => w'.cell? ⟨w.heap.size, 0, none⟩ = some (.int .i64 k) ∧ w'.cell? ⟨w.heap.size, 1, none⟩ = some (.string nm))
        (first | exact ⟨p0, p1⟩ | exact hS7)
        (first
          | (go_at_call 20; (with_reducible refine KI.out.mono ?_); rintro e w7 ⟨rfl, hb7, hS7⟩)
          | (go_at_call 21; (with_reducible refine (KK.out _).mono ?_); rintro e w' ⟨rfl, rfl⟩))
      all_goals
        go_wp2_with fail
        go_meet
        exact ⟨rfl, hb7⟩
    case rest =>
      obtain ⟨rfl, hb7⟩ := hcut
      obtain ⟨w7, rfl⟩ : ∃ w7 : World, w7 = wc := ⟨_, rfl⟩
      obtain ⟨T, hT⟩ : ∃ T, T = D ++ ⟨#[32]⟩ ++ kw ++ ⟨#[32]⟩ ++ nm := ⟨_, rfl⟩
      have hTb : T = bodyB m k nm := by rw [hT, HD.out, Hk.out]; rfl
      have hTs : T.size ≤ 100 := by rw [hTb]; have := bodyB_size m k nm; omega
      have HT := Lib.hid hTb
      rw [← hT]
      have hsl := sumB_lt T
      have hds2 := decB_size (sumB T)
      have KT := Lib.hid (l6Dec_any (sumB T) (by omega) w7)
      obtain ⟨E, hE⟩ : ∃ E, E = decB (sumB T) := ⟨_, rfl⟩
      rw [← hE] at KT hds2
      have HE := Lib.hid hE
      have hEs : E.size ≤ 1000 := by omega
      clear hT hTb hE
      go_wp2_with fail
      (with_reducible refine (l5Sum_any T _ (by omega)).mono ?_)
      rintro e w8 ⟨rfl, rfl⟩
      go_wp2_with fail
      (with_reducible refine KT.out.mono ?_)
      rintro e w9 ⟨rfl, hb9⟩
      go_wp2_with fail
      go_ret
      refine ⟨?_, bthen (bthen b1 hb7) hb9⟩
      rw [Hf.out]
      show Ending.returned (Value.string (T ++ ⟨#[32]⟩ ++ E)) = _
      rw [HE.out, HT.out]
      rfl
end Go.Proofs.YtfodedakhnoplaaDoor
