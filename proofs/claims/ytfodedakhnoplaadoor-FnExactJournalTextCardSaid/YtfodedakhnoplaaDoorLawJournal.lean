/- FnExactJournalText returns true for all events where the listed variables lie as the text lays them: the contract. No other condition. -/
import Derived.Test.YtfodedakhnoplaaDoorJournal
import Derived.Test.YtfodedakhnoplaaDoorEvCopies
import Derived.Test.YtfodedakhnoplaaDoorEvArgs
namespace Go.Proofs.YtfodedakhnoplaaDoor
set_option linter.unusedVariables false
set_option maxRecDepth 100000
open Go.ChangeShapes Go.WideShapes Go.ChangeAt Go.RowKit

set_option maxHeartbeats 2000000 in
theorem exactJournalText_law (W : World) (v : Value) (h : IsEvs W v) (hL : LaidF W.heap.size W) : Calls Tryd.prog 6 #[v] W fun e W' => e = .returned (.bool true) ∧ Below W.heap.size W W' := by
  obtain ⟨A, c, es, rfl, hx⟩ := h
  have h1 := hx.len
  have h2 := hx.cap
  by_cases h20 : 1048576 < es.length + totE es
  · have hl := left_no h20
    go_enter Tryd.func6, Tryd.ntmps6
    go_wp2_with fail
    refine (szEventS_any A c es 1048576 _ _ hx (by omega)).mono ?_
    rintro e w1 ⟨rfl, hb1⟩
    go_wp2_with fail
    go_ret
    exact ⟨rfl, hb1⟩
  · have hl : 0 ≤ left 1048576 (es.length + totE es) := by rw [left_ok (by omega)]; omega
    have hn : es.length ≤ 1048576 := by omega
    go_enter Tryd.func6, Tryd.ntmps6
    go_wp2_with fail
    refine (szEventS_any A c es 1048576 _ _ hx (by omega)).mono ?_
    rintro e w1 ⟨rfl, hb1⟩
    go_wp2_with fail
    (with_reducible refine (toEventS_any A c es _ _ (hx.then_ hb1) hn).mono ?_)
    rintro e w2 ⟨A2, c2, rfl, ho2, hb2⟩
    have b2 := bthen hb1 hb2
    go_wp2_with fail
    (with_reducible refine (sJournalText_any A2 c2 es _ _ ho2.evs).mono ?_)
    rintro e w3 ⟨rfl, hb3⟩
    have b3 := bthen b2 hb3
    go_wp2_with fail
    (with_reducible refine (toEventS_any A c es _ _ (hx.then_ b3) hn).mono ?_)
    rintro e w4 ⟨A4, c4, rfl, ho4, hb4⟩
    have b4 := bthen b3 hb4
    have s4 := ho4.evs
    go_wp2_with fail
    (with_reducible refine (iJournalText_any A4 c4 es _ W.heap.size _ s4 (hL.on b4) b4.size).mono ?_)
    rintro e w5 ⟨rfl, hb5⟩
    have b5 := bthen b4 hb5
    have hT : ((jour es).toList != (jour es).toList) = false := by simp
    have hT2 : ((jour es).toList == (jour es).toList) = true := by simp
    generalize jour es = T at *
    go_wp2_with fail
    (with_reducible refine (toEventS_any A c es _ _ (hx.then_ b5) hn).mono ?_)
    rintro e w6 ⟨A6, c6, rfl, ho6, hb6⟩
    have b6 := bthen b5 hb6
    go_wp2_with fail
    (with_reducible refine (eqEventS_any A4 A6 c4 c6 es es _ _ _ (s4.then_ (bthen hb5 hb6)) ho6.evs true (Lib.hid (by simp))).mono ?_)
    rintro e w7 ⟨rfl, hb7⟩
    go_wp2_with fail
    go_ret
    exact ⟨rfl, bthen b6 hb7⟩
end Go.Proofs.YtfodedakhnoplaaDoor
