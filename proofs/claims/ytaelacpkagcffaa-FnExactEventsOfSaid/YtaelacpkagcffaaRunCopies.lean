/- Contracts of the laws' own functions on runs: szRun, toRun, eqRun, markRun, heldRun. Condition: sizes as the laws ask them. -/
import Derived.Test.YtaelacpkagcffaaMarks
namespace Go.Proofs.Ytaelacpkagcffaa
set_option linter.unusedVariables false
set_option maxRecDepth 100000
open Go.RowKit

set_option maxHeartbeats 400000 in
theorem szRun_any (st : Int) (A : Option Addr) (c : Nat) (xs : List ByteArray) (l : Nat) (w : World) (B : Nat) (h : Strs w B A c xs) (hl : l ≤ 1048576) :
    Calls Try.prog 14 #[.agg #[.int .i64 st, .slice A xs.length c], .int .i64 l] w fun e w' => e = .returned (.int .i64 (left l (tot xs))) ∧ Below w.heap.size w w' := by
  have ha := fun o => h.fit.alloc (Nat.le_refl _) o
  have hb0 : ∀ o, Below w.heap.size w (w.alloc o) := fun o => (Below.refl _ _).alloc (Nat.le_refl _) _
  by_cases h2 : tot xs ≤ l
  · have h4 : 0 ≤ left l (tot xs) := by rw [left_ok h2]; omega
    go_enter Try.func14, Try.ntmps14
    go_wp2_with fail
    (with_reducible refine (szStringS_any A c xs l _ _ (ha _) hl).mono ?_)
    rintro e w1 ⟨rfl, rfl⟩
    go_wp2_with fail
    go_ret
    exact ⟨rfl, hb0 _⟩
  · have h4 := left_no (l := l) (t := tot xs) (by omega)
    go_enter Try.func14, Try.ntmps14
    go_wp2_with fail
    (with_reducible refine (szStringS_any A c xs l _ _ (ha _) hl).mono ?_)
    rintro e w1 ⟨rfl, rfl⟩
    rw [h4]
    go_wp2_with fail
    go_ret
    exact ⟨ret_int h4.symm, hb0 _⟩

/-- A run is handed back; what is done lies in memory of the call's own. -/
def RetRun1 (st : Int) (xs : List ByteArray) (w : World) (e : Ending) (w' : World) : Prop :=
  ∃ A c, e = .returned (.agg #[.int .i64 st, .slice A xs.length c]) ∧ OwnStrs w' w.heap.size A c xs ∧ Below w.heap.size w w'

set_option maxHeartbeats 400000 in
theorem toRun_any (st : Int) (A : Option Addr) (c : Nat) (xs : List ByteArray) (w : World) (B : Nat) (h : Strs w B A c xs) (hl : xs.length ≤ 1048576) :
    Calls Try.prog 18 #[.agg #[.int .i64 st, .slice A xs.length c]] w (RetRun1 st xs w) := by
  have ha := fun o1 o2 o3 => ((h.fit.alloc (Nat.le_refl _) o1).alloc (by simp) o2).alloc (by simp; omega) o3
  go_enter Try.func18, Try.ntmps18
  go_wp2_with fail
  refine (toStringS_any A c xs _ _ (ha _ _ _) (by simp; omega) hl).mono ?_
  rintro e w1 ⟨A1, c1, rfl, ho1, hb1⟩
  obtain ⟨hc, hf⟩ := bcell hb1
  have hz : w.heap.size + 1 + 1 < w1.heap.size := by have := hb1.size; simp at this; omega
  have hz0 : w.heap.size < w1.heap.size := by omega
  have hz1 : w.heap.size + 1 < w1.heap.size := by omega
  go_wp2_with fail
  refine bodyPost_ret (v := .agg #[.int .i64 st, .slice A1 xs.length c1]) (by simp [results, Try.results18, go_sem, hc]) rfl ?_
  have hbw : Below w.heap.size w w1 := bthen ((((Below.refl _ _).alloc (Nat.le_refl _) _).alloc (by simp) _).alloc (by simp; omega) _) hb1
  have hs : ∀ a : Addr, a.block < w.heap.size + 3 → a.block < (((w.alloc (.cells #[.int .i64 st, .slice A xs.length c] 27)).alloc (.cells #[.int .i64 0, .slice none 0 0] 33)).alloc (.cells #[.int .i64 st, .slice none 0 0] 33)).heap.size := fun a ha => by simp; omega
  refine ⟨A1, c1, rfl, ?_, ?_⟩
  · exact (((ho1.setLow (hs _ (by show w.heap.size + 1 + 1 < _; omega)) _).setLow (hs _ (by show w.heap.size + 1 < _; omega)) _).setLow (hs _ (by show w.heap.size + 1 < _; omega)) _).base_ (by simp; omega)
  · exact ((hbw.setCell (by show w.heap.size ≤ w.heap.size + 1 + 1; omega) _).setCell (by show w.heap.size ≤ w.heap.size + 1; omega) _).setCell (by show w.heap.size ≤ w.heap.size + 1; omega) _

set_option maxHeartbeats 400000 in
theorem eqRun_same (st : Int) (A A' : Option Addr) (c c' : Nat) (xs : List ByteArray) (w : World) (B B' : Nat) (h : Strs w B A c xs) (h' : Strs w B' A' c' xs) :
    Calls Try.prog 21 #[.agg #[.int .i64 st, .slice A xs.length c], .agg #[.int .i64 st, .slice A' xs.length c']] w fun e w' => e = .returned (.bool true) ∧ Below w.heap.size w w' := by
  have hb0 : ∀ o1 o2, Below w.heap.size w ((w.alloc o1).alloc o2) := fun o1 o2 => ((Below.refl _ _).alloc (Nat.le_refl _) _).alloc (by simp) _
  go_enter Try.func21, Try.ntmps21
  go_wp2_with fail
  (with_reducible refine (eqStringS_any A A' c c' xs xs _ _ _ ((h.fit.alloc (Nat.le_refl _) _).alloc (by simp) _) ((h'.fit.alloc (Nat.le_refl _) _).alloc (by simp) _)).mono ?_)
  rintro e w1 ⟨rfl, hb1⟩
  rw [decide_eq_true rfl]
  go_wp2_with fail
  go_ret
  exact ⟨rfl, bthen (hb0 _ _) hb1⟩

set_option maxHeartbeats 400000 in
theorem markRun_any (st : Int) (A : Option Addr) (c : Nat) (xs : List ByteArray) (k : Nat) (w : World) (base : Nat) (h : OwnStrs w base A c xs) (hk : 1 ≤ k) (hl : k + xs.length ≤ 10000000) :
    Calls Try.prog 24 #[.agg #[.int .i64 st, .slice A xs.length c], .int .i64 k] w fun e w' => e = .returned (.int .i64 ((k + xs.length : Nat) : Int)) ∧ OwnStrs w' base A c (marks k xs.length) ∧ w.grownBy w' (A.map (·.block)) := by
  go_enter Try.func24, Try.ntmps24
  go_wp2_with fail
  (with_reducible refine (markStringS_any A c xs k _ base (h.alloc _) hk hl).mono ?_)
  rintro e w1 ⟨rfl, ho, hg⟩
  have hg2 := grown_after_alloc hg
  go_wp2_with fail
  go_ret
  exact ⟨rfl, ho, hg2⟩
theorem markRun_one (st : Int) (A : Option Addr) (c : Nat) (xs : List ByteArray) (w : World) (base : Nat) (h : OwnStrs w base A c xs) (hl : xs.length ≤ 5000000) :
    Calls Try.prog 24 #[.agg #[.int .i64 st, .slice A xs.length c], .int .i64 1] w fun e w' => e = .returned (.int .i64 (xs.length + 1)) ∧ OwnStrs w' base A c (marks 1 xs.length) ∧ w.grownBy w' (A.map (·.block)) :=
  (markRun_any st A c xs 1 w base h (Nat.le_refl _) (by omega)).mono fun e w' ⟨he, ho, hg⟩ => ⟨he.trans (ret_int (by omega)), ho, hg⟩

set_option maxHeartbeats 400000 in
theorem heldRun_one (st : Int) (A : Option Addr) (c n : Nat) (w : World) (B : Nat) (h : Strs w B A c (marks 1 n)) (hl : n ≤ 5000000) :
    Calls Try.prog 25 #[.agg #[.int .i64 st, .slice A n c], .int .i64 1] w fun e w' => e = .returned (.int .i64 (n + 1)) ∧ Below w.heap.size w w' := by
  have hb0 : ∀ o1, Below w.heap.size w (w.alloc o1) := fun o1 => (Below.refl _ _).alloc (Nat.le_refl _) _
  have hn : ¬ ((n : Int) + 1 < 0) := by omega
  go_enter Try.func25, Try.ntmps25
  go_wp2_with fail
  (with_reducible refine (heldStringS_one A c n _ _ (h.fit.alloc (Nat.le_refl _) _) hl).mono ?_)
  rintro e w1 ⟨rfl, hb1⟩
  go_wp2_with fail
  go_ret
  exact ⟨rfl, bthen (hb0 _) hb1⟩
end Go.Proofs.Ytaelacpkagcffaa
