/- Contracts of the laws' own functions on steps: szStep, toStep, eqStep. Condition: sizes as the laws ask them. -/
import Derived.Test.YtfkjcldaclkkaaaCopies
import Derived.Test.YtfkjcldaclkkaaaSteps
namespace Go.Proofs.Ytfkjcldaclkkaaa
set_option linter.unusedVariables false
set_option maxRecDepth 100000
open Go.RowKit

set_option maxHeartbeats 400000 in
theorem szStep_any (nm : ByteArray) (A : Option Addr) (c : Nat) (xs : List ByteArray) (u : Bool) (l : Nat) (w : World) (B : Nat) (h : Strs w B A c xs) (hs : nm.size ≤ 9223372036854775807) (hl : l ≤ 1048576) :
    Calls Try.prog 94 #[.agg #[.string nm, .slice A xs.length c, .bool u], .int .i64 l] w fun e w' => e = .returned (.int .i64 (left l (nm.size + tot xs))) ∧ Below w.heap.size w w' := by
  have ha := fun o => h.fit.alloc (Nat.le_refl _) o
  by_cases h1 : l < nm.size
  · have hf := Lib.hid (left_no (l := l) (t := nm.size + tot xs) (by omega))
    go_enter Try.func94, Try.ntmps94
    go_wp2_with fail
    go_ret
    exact ⟨ret_int hf.out.symm, (Below.refl _ _).alloc (Nat.le_refl _) _⟩
  · obtain ⟨q, hq⟩ : ∃ q : Nat, q = l - nm.size := ⟨_, rfl⟩
    have hq1 : (l : Int) - nm.size = q := by omega
    have hq2 : q ≤ 1048576 := by omega
    have hf : left l (nm.size + tot xs) = left q (tot xs) := by
      by_cases h2 : tot xs ≤ q
      · rw [left_ok h2, left_ok (by omega)]; omega
      · rw [left_no (by omega), left_no (by omega)]
    have Hf := Lib.hid hf
    clear hf hq
    by_cases h2 : tot xs ≤ q
    · have h3 := Lib.hid (left_ok h2)
      have h4 : 0 ≤ left q (tot xs) := by rw [h3.out]; omega
      go_enter Try.func94, Try.ntmps94
      go_wp2_with (go_at_call 79; (with_reducible refine (szStringS_any A c xs q _ _ (ha _) hq2).mono ?_); rintro e w' ⟨rfl, rfl⟩)
      go_ret
      exact ⟨ret_int Hf.out.symm, (Below.refl _ _).alloc (Nat.le_refl _) _⟩
    · have h3 := left_no (l := q) (t := tot xs) (by omega)
      have H3 := Lib.hid h3
      go_enter Try.func94, Try.ntmps94
      go_wp2_with (go_at_call 79; (with_reducible refine (szStringS_any A c xs q _ _ (ha _) hq2).mono ?_); rintro e w' ⟨rfl, rfl⟩)
      go_ret
      exact ⟨ret_int (by rw [Hf.out, H3.out]), (Below.refl _ _).alloc (Nat.le_refl _) _⟩

/-- A step is handed back; what it comes after lies in memory of the call's own. -/
def RetStep (nm : ByteArray) (xs : List ByteArray) (u : Bool) (w : World) (e : Ending) (w' : World) : Prop :=
  ∃ A c, e = .returned (.agg #[.string nm, .slice A xs.length c, .bool u]) ∧ OwnStrs w' w.heap.size A c xs ∧ Below w.heap.size w w'

set_option maxHeartbeats 400000 in
theorem toStep_any (nm : ByteArray) (A : Option Addr) (c : Nat) (xs : List ByteArray) (u : Bool) (w : World) (B : Nat) (h : Strs w B A c xs) (hl : xs.length ≤ 1048576) :
    Calls Try.prog 95 #[.agg #[.string nm, .slice A xs.length c, .bool u]] w (RetStep nm xs u w) := by
  have ha := fun o1 o2 o3 => ((h.fit.alloc (Nat.le_refl _) o1).alloc (by simp) o2).alloc (by simp; omega) o3
  go_enter Try.func95, Try.ntmps95
  go_wp2_with fail
  refine (toStringS_any A c xs _ _ (ha _ _ _) (by simp; omega) hl).mono ?_
  rintro e w1 ⟨A1, c1, rfl, ho1, hb1⟩
  obtain ⟨hc, hf⟩ := bcell hb1
  have hz : w.heap.size + 1 + 1 < w1.heap.size := by have := hb1.size; simp at this; omega
  have hz0 : w.heap.size < w1.heap.size := by omega
  have hz1 : w.heap.size + 1 < w1.heap.size := by omega
  go_wp2_with fail
  refine bodyPost_ret (v := .agg #[.string nm, .slice A1 xs.length c1, .bool u]) (by simp [results, Try.results95, go_sem, hc]) rfl ?_
  have hbw : Below w.heap.size w w1 := bthen ((((Below.refl _ _).alloc (Nat.le_refl _) _).alloc (by simp) _).alloc (by simp; omega) _) hb1
  have hs : ∀ a : Addr, a.block < w.heap.size + 3 → a.block < (((w.alloc (.cells #[.string nm, .slice A xs.length c, .bool u] 104)).alloc (.cells #[.string ⟨#[]⟩, .slice none 0 0, .bool false] 30)).alloc (.cells #[.string nm, .slice none 0 0, .bool false] 30)).heap.size := fun a ha => by simp; omega
  refine ⟨A1, c1, rfl, ?_, ?_⟩
  · exact ((((((ho1.setLow (hs _ (by show w.heap.size + 1 + 1 < _; omega)) _).setLow (hs _ (by show w.heap.size + 1 + 1 < _; omega)) _).setLow (hs _ (by show w.heap.size + 1 < _; omega)) _).setLow (hs _ (by show w.heap.size + 1 < _; omega)) _).setLow (hs _ (by show w.heap.size + 1 < _; omega)) _).base_ (by simp; omega))
  · exact ((((hbw.setCell (by show w.heap.size ≤ w.heap.size + 1 + 1; omega) _).setCell (by show w.heap.size ≤ w.heap.size + 1 + 1; omega) _).setCell (by show w.heap.size ≤ w.heap.size + 1; omega) _).setCell (by show w.heap.size ≤ w.heap.size + 1; omega) _).setCell (by show w.heap.size ≤ w.heap.size + 1; omega) _

set_option maxHeartbeats 400000 in
theorem eqStep_any (nm nm' : ByteArray) (A A' : Option Addr) (c c' : Nat) (xs xs' : List ByteArray) (u u' : Bool) (w : World) (B B' : Nat) (h : Strs w B A c xs) (h' : Strs w B' A' c' xs') (R : Bool) (hR : Hid (R = true ↔ (nm = nm' ∧ xs = xs' ∧ u = u'))) :
    Calls Try.prog 29 #[.agg #[.string nm, .slice A xs.length c, .bool u], .agg #[.string nm', .slice A' xs'.length c', .bool u']] w fun e w' => e = .returned (.bool R) ∧ Below w.heap.size w w' := by
  by_cases hn : nm = nm'
  · subst hn
    cases he : decide (xs = xs')
    · have hx : xs ≠ xs' := of_decide_eq_false he
      have HR := Lib.hid (show R = false by cases R; rfl; exact absurd (hR.out.1 rfl).2.1 hx)
      have He := Lib.hid he
      clear hx he
      go_enter Try.func29, Try.ntmps29
      go_wp2_with fail
      refine (eqStringS_any A A' c c' xs xs' _ _ _ ((h.fit.alloc (Nat.le_refl _) _).alloc (by simp) _) ((h'.fit.alloc (Nat.le_refl _) _).alloc (by simp) _)).mono ?_
      rintro e w1 ⟨rfl, hb1⟩
      obtain ⟨hc, hf⟩ := bcell hb1
      rw [He.out]
      go_wp2_with fail
      go_ret
      exact ⟨ret_bool HR.out.symm, bthen (((Below.refl _ _).alloc (Nat.le_refl _) _).alloc (by simp) _) hb1⟩
    · have hx : xs = xs' := of_decide_eq_true he
      have He := Lib.hid he
      clear he
      cases hu : u == u'
      · have HR := Lib.hid (show R = false by cases R; rfl; exact absurd (hR.out.1 rfl).2.2 (by simpa using hu))
        have hu' : (u != u') = true := by simp [bne, hu]
        clear hx
        go_enter Try.func29, Try.ntmps29
        go_wp2_with fail
        refine (eqStringS_any A A' c c' xs xs' _ _ _ ((h.fit.alloc (Nat.le_refl _) _).alloc (by simp) _) ((h'.fit.alloc (Nat.le_refl _) _).alloc (by simp) _)).mono ?_
        rintro e w1 ⟨rfl, hb1⟩
        obtain ⟨hc, hf⟩ := bcell hb1
        rw [He.out]
        go_wp2_with fail
        go_ret
        exact ⟨ret_bool HR.out.symm, bthen (((Below.refl _ _).alloc (Nat.le_refl _) _).alloc (by simp) _) hb1⟩
      · have HR := Lib.hid (show R = true from hR.out.2 ⟨rfl, hx, by simpa using hu⟩)
        have hu' : (u != u') = false := by simp [bne, hu]
        clear hx
        go_enter Try.func29, Try.ntmps29
        go_wp2_with fail
        refine (eqStringS_any A A' c c' xs xs' _ _ _ ((h.fit.alloc (Nat.le_refl _) _).alloc (by simp) _) ((h'.fit.alloc (Nat.le_refl _) _).alloc (by simp) _)).mono ?_
        rintro e w1 ⟨rfl, hb1⟩
        obtain ⟨hc, hf⟩ := bcell hb1
        rw [He.out]
        go_wp2_with fail
        go_ret
        exact ⟨ret_bool HR.out.symm, bthen (((Below.refl _ _).alloc (Nat.le_refl _) _).alloc (by simp) _) hb1⟩
  · have HR := Lib.hid (show R = false by cases R; rfl; exact absurd (hR.out.1 rfl).1 hn)
    have hx0 : (nm.toList == nm'.toList) = false := by rw [str_beq]; exact decide_eq_false hn
    have hx1 : (nm.toList != nm'.toList) = true := by simp only [bne, hx0]; rfl
    clear hn
    go_enter Try.func29, Try.ntmps29
    go_wp2_with fail
    go_ret
    exact ⟨ret_bool HR.out.symm, ((Below.refl _ _).alloc (Nat.le_refl _) _).alloc (by simp) _⟩
end Go.Proofs.Ytfkjcldaclkkaaa
