/- Contracts of the laws' own functions on runs: szRun, toRun, eqRun, markRun, heldRun. Condition: sizes as the laws ask them. -/
import Derived.Test.YtcammncomeiciaaMarks
namespace Go.Proofs.Ytcammncomeiciaa
set_option linter.unusedVariables false
open Go.RowKit


/-- A run is handed back; what is done lies in memory of the call's own. -/
def RetRun1 (st : Int) (xs : List ByteArray) (w : World) (e : Ending) (w' : World) : Prop :=
  ∃ A c, e = .returned (.agg #[.int .i64 st, .slice A xs.length c]) ∧ OwnStrs w' w.heap.size A c xs ∧ Below w.heap.size w w'


set_option maxHeartbeats 400000 in
theorem eqRun_same (st : Int) (A A' : Option Addr) (c c' : Nat) (xs : List ByteArray) (w : World) (B B' : Nat) (h : Strs w B A c xs) (h' : Strs w B' A' c' xs) :
    Calls Try.prog 43 #[.agg #[.int .i64 st, .slice A xs.length c], .agg #[.int .i64 st, .slice A' xs.length c']] w fun e w' => e = .returned (.bool true) ∧ Below w.heap.size w w' := by
  have hb0 : ∀ o1 o2, Below w.heap.size w ((w.alloc o1).alloc o2) := fun o1 o2 => ((Below.refl _ _).alloc (Nat.le_refl _) _).alloc (by simp) _
  go_enter Try.func43, Try.ntmps43
  go_wp2_with fail
  (with_reducible refine (eqStringS_any A A' c c' xs xs _ _ _ ((h.fit.alloc (Nat.le_refl _) _).alloc (by simp) _) ((h'.fit.alloc (Nat.le_refl _) _).alloc (by simp) _)).mono ?_)
  rintro e w1 ⟨rfl, hb1⟩
  rw [decide_eq_true rfl]
  go_wp2_with fail
  go_ret
  exact ⟨rfl, bthen (hb0 _ _) hb1⟩

set_option maxHeartbeats 400000 in
theorem markRun_any (st : Int) (A : Option Addr) (c : Nat) (xs : List ByteArray) (k : Nat) (w : World) (base : Nat) (h : OwnStrs w base A c xs) (hk : 1 ≤ k) (hl : k + xs.length ≤ 10000000) :
    Calls Try.prog 44 #[.agg #[.int .i64 st, .slice A xs.length c], .int .i64 k] w fun e w' => e = .returned (.int .i64 ((k + xs.length : Nat) : Int)) ∧ OwnStrs w' base A c (marks k xs.length) ∧ w.grownBy w' (A.map (·.block)) := by
  go_enter Try.func44, Try.ntmps44
  go_wp2_with fail
  (with_reducible refine (markStringS_any A c xs k _ base (h.alloc _) hk hl).mono ?_)
  rintro e w1 ⟨rfl, ho, hg⟩
  have hg2 := grown_after_alloc hg
  go_wp2_with fail
  go_ret
  exact ⟨rfl, ho, hg2⟩
theorem markRun_one (st : Int) (A : Option Addr) (c : Nat) (xs : List ByteArray) (w : World) (base : Nat) (h : OwnStrs w base A c xs) (hl : xs.length ≤ 5000000) :
    Calls Try.prog 44 #[.agg #[.int .i64 st, .slice A xs.length c], .int .i64 1] w fun e w' => e = .returned (.int .i64 (xs.length + 1)) ∧ OwnStrs w' base A c (marks 1 xs.length) ∧ w.grownBy w' (A.map (·.block)) :=
  (markRun_any st A c xs 1 w base h (Nat.le_refl _) (by omega)).mono fun e w' ⟨he, ho, hg⟩ => ⟨he.trans (ret_int (by omega)), ho, hg⟩

set_option maxHeartbeats 400000 in
theorem heldRun_one (st : Int) (A : Option Addr) (c n : Nat) (w : World) (B : Nat) (h : Strs w B A c (marks 1 n)) (hl : n ≤ 5000000) :
    Calls Try.prog 45 #[.agg #[.int .i64 st, .slice A n c], .int .i64 1] w fun e w' => e = .returned (.int .i64 (n + 1)) ∧ Below w.heap.size w w' := by
  have hb0 : ∀ o1, Below w.heap.size w (w.alloc o1) := fun o1 => (Below.refl _ _).alloc (Nat.le_refl _) _
  have hn : ¬ ((n : Int) + 1 < 0) := by omega
  go_enter Try.func45, Try.ntmps45
  go_wp2_with fail
  (with_reducible refine (heldStringS_one A c n _ _ (h.fit.alloc (Nat.le_refl _) _) hl).mono ?_)
  rintro e w1 ⟨rfl, hb1⟩
  go_wp2_with fail
  go_ret
  exact ⟨rfl, bthen (hb0 _) hb1⟩
end Go.Proofs.Ytcammncomeiciaa
