/- Contracts of the draws of names: l91Name, DrawNameValid. Condition: the place is small. -/
import Derived.Test.YtfodedakhnoplaaDoorReader
namespace Go.Proofs.YtfodedakhnoplaaDoor
set_option linter.unusedVariables false
set_option maxRecDepth 100000
open Go.RowKit

/-- A name is drawn: at most six bytes; the place goes on by at most K. -/
def DrawnStr (B g : Nat) (A : Option Addr) (c : Nat) (zs : List Int) (p K : Nat) (w : World) (e : Ending) (w' : World) : Prop :=
  ∃ (s : ByteArray) (p' : Nat), e = .returned (.string s) ∧ s.size ≤ 6 ∧ p' ≤ p + K ∧ Rdr w' B g A c zs p' ∧ w.grownBy w' (some g)

set_option maxHeartbeats 400000 in
theorem l91Name_any (B g : Nat) (A : Option Addr) (c : Nat) (zs : List Int) (p : Nat) (w : World) (h : Rdr w B g A c zs p) (hp : p ≤ 900000) :
    Calls Tryd.prog 28 #[.pointer (some ⟨g, 0, none⟩)] w (DrawnStr B g A c zs p 2 w) := by
  go_enter Tryd.func28, Tryd.ntmps28
  go_wp2_with fail
  refine (pick_any B g A c zs p _ _ h (by omega)).mono ?_
  rintro e w1 ⟨v, rfl, hv0, hv1, hr1, hg1⟩
  by_cases hz : v = 0
  · subst hz
    go_wp2_with fail
    refine (ofLit_any [⟨#[]⟩, ⟨#[65]⟩, ⟨#[97, 98, 99, 100, 101, 102]⟩, ⟨#[97, 98, 99, 100, 101]⟩, ⟨#[97, 49]⟩] B g A c zs (p + 1) 5 w1 hr1 (by omega) rfl (by omega) (by omega)).mono ?_
    rintro e w2 ⟨s, rfl, hs, hr2, hg2⟩
    have hs6 : s.size ≤ 6 := by
      simp only [List.mem_cons, List.not_mem_nil, or_false] at hs
      rcases hs with rfl | rfl | rfl | rfl | rfl <;> decide
    clear hs
    go_wp2_with fail
    go_ret
    exact ⟨s, p + 1 + 1, rfl, hs6, by omega, hr2, grown_trans hg1 hg2⟩
  · have hz' : (v == 0) = false := by simpa using hz
    clear hz
    go_wp2_with fail
    refine (ofLit_any [⟨#[97]⟩, ⟨#[98]⟩, ⟨#[99]⟩, ⟨#[100]⟩, ⟨#[101]⟩, ⟨#[102]⟩] B g A c zs (p + 1) 6 w1 hr1 (by omega) rfl (by omega) (by omega)).mono ?_
    rintro e w2 ⟨s, rfl, hs, hr2, hg2⟩
    have hs6 : s.size ≤ 6 := by
      simp only [List.mem_cons, List.not_mem_nil, or_false] at hs
      rcases hs with rfl | rfl | rfl | rfl | rfl | rfl <;> decide
    clear hs
    go_wp2_with fail
    go_ret
    exact ⟨s, p + 1 + 1, rfl, hs6, by omega, hr2, grown_trans hg1 hg2⟩

/-- A name is drawn from a code: at most six bytes; nothing that was there turns. -/
def DrawnName (w : World) (e : Ending) (w' : World) : Prop := ∃ s : ByteArray, e = .returned (.string s) ∧ s.size ≤ 6 ∧ Below w.heap.size w w'

end Go.Proofs.YtfodedakhnoplaaDoor
