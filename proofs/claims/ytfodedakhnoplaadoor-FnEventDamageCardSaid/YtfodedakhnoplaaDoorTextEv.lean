/- Contracts of EventText, program and reference. Condition: the package's words and the library's table of tens lie as the text lays them; lengths as Go has them. -/
import Derived.Test.YtfodedakhnoplaaDoorTextDec
import Derived.Test.YtfodedakhnoplaaDoorShelfF
import Derived.Shelf.Strconv.Itoa3
import Derived.Lib.AppendIntMem
import Derived.Deep.DeepCutAuto
import Derived.Deep.RegionHeld3
namespace Go.Proofs.YtfodedakhnoplaaDoor
set_option linter.unusedVariables false
set_option maxRecDepth 100000
open Go.RowKit

def wordsB : List ByteArray := [⟨#[]⟩, didB, failedB, undidB]
/-- The package's words and the library's table of tens lie below block B as the text lays them. -/
structure LaidF (B : Nat) (w : World) : Prop where
  tab : Lib.TabBelow Tryd.prog B w "internal/strconv.uint64pow10" .u64 Lib.pow10Tab
  words : ∃ ad c, w.cell? ⟨0, 0, none⟩ = some (.slice (some ad) 4 c) ∧ 0 < B ∧ ad.block < B ∧ 4 ≤ c ∧ ∀ j (h : j < wordsB.length), w.cell? (ad.add j) = some (.string wordsB[j])
theorem LaidF.on {B : Nat} {w w' : World} (h : LaidF B w) (hb : Below B w w') : LaidF B w' := by
  obtain ⟨ad, c, h1, h2, h3, h4, h5⟩ := h.words
  exact ⟨h.tab.on hb, ad, c, (hb.cell (p := ⟨_, 0, none⟩) h2).trans h1, h2, h3, h4, fun j hj => (hb.cell (by rw [block_of_add]; exact h3)).trans (h5 j hj)⟩

theorem itoa_small (m : Nat) (hm : m < 100) (w : World) : Calls Tryd.prog 24 #[.int .i64 m] w fun e w' => e = .returned (.string (decB m)) ∧ w = w' := by
  have K : Calls Tryd.prog 24 #[.int .i64 m] w _ := Any.strconv_Itoa_small Tryd.lays171 m hm w
  refine K.mono ?_
  rintro e w' ⟨rfl, rfl⟩
  exact ⟨rfl, rfl⟩
theorem itoa_any (m : Nat) (hm : m < 10000) (B : Nat) (w : World) (h : LaidF B w) : Calls Tryd.prog 24 #[.int .i64 m] w fun e w' => e = .returned (.string (decB m)) ∧ Below w.heap.size w w' := by
  have K : Calls Tryd.prog 24 #[.int .i64 m] w _ := Any.strconv_Itoa Tryd.laysM171 (m : Int) (by omega) (by omega) w h.tab.here
  refine K.mono ?_
  rintro e w' ⟨rfl, k, os, rfl⟩
  refine ⟨?_, Lib.below_grow _ _ (Nat.le_refl _) _ _⟩
  unfold decB Lib.itoa
  rw [if_neg (by omega)]
  rfl

set_option maxHeartbeats 4000000 in
theorem iEventText_any (n k : Int) (nm : ByteArray) (w : World) (B : Nat) (hL : LaidF B w) (hB : B ≤ w.heap.size) (hs : nm.size ≤ 9223372036854775807) :
    Calls Tryd.prog 10 #[.int .i64 n, .agg #[.int .i64 k, .string nm]] w fun e w' => e = .returned (.string (textB n k nm)) ∧ Below w.heap.size w w' := by
  have b0 : Below w.heap.size w (w.alloc (.cells #[.int .i64 k, .string nm] 26)) := (Below.refl _ _).alloc (Nat.le_refl _) _
  cases hok : lineOk n k nm
  · have Hf := Lib.hid (textB_no hok)
    by_cases h1 : n < 1
    · clear hok
      go_enter Tryd.func10, Tryd.ntmps10
      go_wp2_with fail
      go_ret
      exact ⟨by rw [Hf.out]; rfl, b0⟩
    · by_cases h20 : 20 < n
      · clear hok
        go_enter Tryd.func10, Tryd.ntmps10
        go_wp2_with fail
        go_ret
        exact ⟨by rw [Hf.out]; rfl, b0⟩
      · have hev : evOk ⟨k, nm⟩ = false := by
          unfold lineOk at hok
          rw [decide_eq_true (show 1 ≤ n by omega), decide_eq_true (show n ≤ 20 by omega)] at hok
          simpa using hok
        clear hok
        go_enter Tryd.func10, Tryd.ntmps10
        go_wp2_with fail
        (with_reducible refine (eventValid_any k nm _ hs).mono ?_)
        rintro e w1 ⟨rfl, hb1⟩
        rw [hev]
        go_wp2_with fail
        go_ret
        exact ⟨by rw [Hf.out]; rfl, bthen b0 hb1⟩
  · have Hf := Lib.hid (textB_yes hok)
    obtain ⟨h1, h20, hev⟩ := lineOk_parts hok
    obtain ⟨k1, k3, hnm⟩ := evOk_parts hev
    have hn5 := (nameOk_size hnm).2
    clear hok hnm
    obtain ⟨m, rfl⟩ := Int.eq_ofNat_of_zero_le (show 0 ≤ n by omega)
    obtain ⟨q, rfl⟩ := Int.eq_ofNat_of_zero_le (show 0 ≤ k by omega)
    go_enter Tryd.func10, Tryd.ntmps10
    go_wp2_with fail
    (with_reducible refine (eventValid_any q nm _ hs).mono ?_)
    rintro e w1 ⟨rfl, hb1⟩
    rw [hev]
    have b1 := bthen b0 hb1
    have L1 := hL.on (b1.mono hB)
    obtain ⟨p0, p1⟩ := (Cell2.new w (.int .i64 q) (.string nm) 26).then_ hb1
    obtain ⟨ad, c, hg, hgl, hadB, hc4, hws⟩ := L1.words
    have hwl : wordsB.length = 4 := rfl
    have hcell := hws q (by omega)
    obtain ⟨kw, hkw⟩ : ∃ kw, kw = wordsB[q]'(by omega) := ⟨_, rfl⟩
    rw [← hkw] at hcell
    have hkk : kw = kindB q := by
      rcases (show q = 1 ∨ q = 2 ∨ q = 3 by omega) with rfl | rfl | rfl <;> rw [hkw] <;> rfl
    have hks : kw.size ≤ 6 := by rw [hkk]; exact kindB_size _
    have Hk := Lib.hid hkk
    have hi0 : (0 : Int) ≤ q := by omega
    have hi1 : (q : Int) < 4 := by omega
    have hds := decB_size m
    obtain ⟨D, hD⟩ : ∃ D, D = decB m := ⟨_, rfl⟩
    have KI := Lib.hid (fun wq => itoa_small m (by omega) wq)
    rw [← hD] at KI hds
    have HD := Lib.hid hD
    have hds : D.size ≤ 21 := by omega
    have Hws := Lib.hid hws
    clear hkw hkk hws hD hev b0 hwl
    have KS0 : Calls Tryd.prog 24 #[.int .i64 m] w1.drew fun e w' => e = .returned (.string D) ∧ w1.drew = w' ∧ (w'.cell? ⟨0, 0, none⟩ = some (.slice (some ad) 4 c) ∧ w'.cell? ⟨w.heap.size, 0, none⟩ = some (.int .i64 q) ∧ w'.cell? ⟨w.heap.size, 1, none⟩ = some (.string nm) ∧ w'.cell? (ad.add q) = some (.string kw)) := (KI.out w1.drew).mono (by rintro e w' ⟨he, rfl⟩; exact ⟨he, rfl, hg, p0, p1, hcell⟩)
    have KS := Lib.hid KS0
    clear KS0
    have hb1 : ¬ 9223372036854775807 < D.size + 1 := by omega
    have hb2 : ¬ 9223372036854775807 < D.size + 1 + kw.size := by omega
    have hb3 : ¬ 9223372036854775807 < D.size + 1 + kw.size + 1 := by omega
    have hb4 : ¬ 9223372036854775807 < D.size + 1 + kw.size + 1 + nm.size := by omega
    go_upto_region 3 with fail
    go_region_held3 (fun w' => w'.cell? ⟨0, 0, none⟩ = some (.slice (some ad) 4 c) ∧ w'.cell? ⟨w.heap.size, 0, none⟩ = some (.int .i64 q) ∧ w'.cell? ⟨w.heap.size, 1, none⟩ = some (.string nm) ∧ w'.cell? (ad.add q) = some (.string kw))
      (exact ⟨hg, p0, p1, hcell⟩)
      ((go_at_call 24; (with_reducible refine KS.out.mono ?_); rintro e w7 ⟨rfl, rfl, hS7⟩))
    go_wp2_with fail
    obtain ⟨T, hT⟩ : ∃ T, T = D ++ ⟨#[32]⟩ ++ kw ++ ⟨#[32]⟩ ++ nm := ⟨_, rfl⟩
    have hTb : T = bodyB m q nm := by rw [hT, HD.out, Hk.out]; rfl
    have hTs : T.size ≤ 100 := by rw [hTb]; have := bodyB_size m q nm; omega
    have HT := Lib.hid hTb
    rw [← hT]
    (with_reducible refine (checkOf_any T _ (by omega)).mono ?_)
    rintro e w8 ⟨rfl, rfl⟩
    have hsl := sumB_lt T
    have hds2 := decB_size (sumB T)
    have L8 : LaidF B w1.drew := ⟨fun w' hb => L1.tab w' ⟨hb.os, hb.tape, hb.output, hb.size, hb.block⟩, ad, c, hg, hgl, hadB, hc4, Hws.out⟩
    have KT := Lib.hid (itoa_any (sumB T) (by omega) B w1.drew L8)
    obtain ⟨E, hE⟩ : ∃ E, E = decB (sumB T) := ⟨_, rfl⟩
    rw [← hE] at KT hds2
    have HE := Lib.hid hE
    have hEs : E.size ≤ 1000 := by omega
    clear hT hTb hE
    go_wp2_with fail
    (with_reducible refine KT.out.mono ?_)
    rintro e w9 ⟨rfl, hb9⟩
    go_wp2_with fail
    go_ret
    refine ⟨?_, bthen b1 ⟨hb9.os, hb9.tape, hb9.output, hb9.size, hb9.block⟩⟩
    rw [Hf.out]
    show Ending.returned (Value.string (T ++ ⟨#[32]⟩ ++ E)) = _
    rw [HE.out, HT.out]
    rfl
end Go.Proofs.YtfodedakhnoplaaDoor
