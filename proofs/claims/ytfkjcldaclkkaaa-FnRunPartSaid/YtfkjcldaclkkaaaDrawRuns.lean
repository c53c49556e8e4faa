/- Contracts of the draws of a flow and its run from a code: DrawRunNext, DrawEventsOf, DrawRunFail, DrawRunDo. No condition. -/
import Derived.Test.YtfkjcldaclkkaaaDrawBoth
namespace Go.Proofs.Ytfkjcldaclkkaaa
set_option linter.unusedVariables false
set_option maxRecDepth 100000
open Go.RowKit

/-- A flow and its run, drawn from a code. -/
structure BothTop (w w' : World) (SA : Option Addr) (sc : Nat) (ss : List St) (D : Option Addr) (d : Nat) (done : List ByteArray) : Prop where
  sts : Sts w' w'.heap.size SA sc ss
  strs : Strs w' w'.heap.size D d done
  one : 1 ≤ ss.length
  six : ss.length ≤ 6
  small : ∀ s ∈ ss, (1 ≤ s.name.size ∧ s.name.size ≤ 6) ∧ s.after.length ≤ 4 ∧ ∀ x ∈ s.after, x.size ≤ 6
  len : done.length ≤ 7
  sizes : ∀ x ∈ done, x.size ≤ 6
def DrawnBothTop (w : World) (e : Ending) (w' : World) : Prop :=
  ∃ (ver : Int) (SA : Option Addr) (sc : Nat) (ss : List St) (st : Int) (D : Option Addr) (d : Nat) (done : List ByteArray), e = .returned (.tuple #[.agg #[.int .i64 ver, .slice SA ss.length sc], .agg #[.int .i64 st, .slice D done.length d]]) ∧ BothTop w w' SA sc ss D d done ∧ Below w.heap.size w w'
def DrawnNextTop (w : World) (e : Ending) (w' : World) : Prop :=
  ∃ (ver : Int) (SA : Option Addr) (sc : Nat) (ss : List St) (st : Int) (D : Option Addr) (d : Nat) (done : List ByteArray) (nm : ByteArray), e = .returned (.tuple #[.agg #[.int .i64 ver, .slice SA ss.length sc], .agg #[.int .i64 st, .slice D done.length d], .string nm]) ∧ nm.size ≤ 6 ∧ BothTop w w' SA sc ss D d done ∧ Below w.heap.size w w'
/-- What is known while the results are stored. -/
structure TopMid (w wr : World) (SA : Option Addr) (sc : Nat) (ss : List St) (D : Option Addr) (d : Nat) (done : List ByteArray) : Prop where
  steps : OwnSteps wr (w.heap.size + 2) (w.heap.size + 2) SA sc ss
  own : OwnStrs wr (w.heap.size + 2) D d done
  low : Below w.heap.size w wr
section
variable {w wr : World} {SA : Option Addr} {sc : Nat} {ss : List St} {D : Option Addr} {d : Nat} {done : List ByteArray}
theorem TopMid.set0 (m : TopMid w wr SA sc ss D d done) (j : Nat) (u : Value) : TopMid w (wr.setCell ⟨w.heap.size, j, none⟩ u) SA sc ss D d done :=
  have h2 : w.heap.size < w.heap.size + 2 := by omega
  ⟨m.steps.set u h2 (fun q' e => by have := (m.steps.blocks q' e).1; show q'.block ≠ w.heap.size; omega), m.own.setLow h2 u, m.low.setCell (Nat.le_refl _) _⟩
theorem TopMid.set1 (m : TopMid w wr SA sc ss D d done) (j : Nat) (u : Value) : TopMid w (wr.setCell ⟨w.heap.size + 1, j, none⟩ u) SA sc ss D d done :=
  have h2 : w.heap.size + 1 < w.heap.size + 2 := by omega
  ⟨m.steps.set u h2 (fun q' e => by have := (m.steps.blocks q' e).1; show q'.block ≠ w.heap.size + 1; omega), m.own.setLow h2 u, m.low.setCell (by show w.heap.size ≤ w.heap.size + 1; omega) _⟩
theorem TopMid.fin (m : TopMid w wr SA sc ss D d done) (h1 : 1 ≤ ss.length) (h6 : ss.length ≤ 6) (hsm : ∀ s ∈ ss, (1 ≤ s.name.size ∧ s.name.size ≤ 6) ∧ s.after.length ≤ 4 ∧ ∀ x ∈ s.after, x.size ≤ 6) (hl : done.length ≤ 7) (hx : ∀ x ∈ done, x.size ≤ 6) : BothTop w wr SA sc ss D d done ∧ Below w.heap.size w wr :=
  ⟨⟨m.steps.sts, m.own.strs, h1, h6, hsm, hl, hx⟩, m.low⟩
end

set_option maxHeartbeats 2000000 in
theorem drawRunNext_any (A : Option Addr) (c : Nat) (zs : List Int) (w : World) (h : Byts w w.heap.size A c zs) :
    Calls Try.prog 43 #[.slice A zs.length c] w (DrawnBothTop w) := by
  have y1 : FlowBox ((w.alloc (.cells #[.int .i64 0, .slice none 0 0] 25)).alloc (.cells #[.int .i64 0, .slice none 0 0] 52)) w.heap.size (.int .i64 0) (.slice none 0 0) := (Below.heap_alloc _ _ _ (by simp)).trans (FlowBox.new w _ _)
  have y2 : RBox ((w.alloc (.cells #[.int .i64 0, .slice none 0 0] 25)).alloc (.cells #[.int .i64 0, .slice none 0 0] 52)) (w.heap.size + 1) (.int .i64 0) (.slice none 0 0) := RBox.new_at _ _ _ (by simp)
  have b0 : Below w.heap.size w ((w.alloc (.cells #[.int .i64 0, .slice none 0 0] 25)).alloc (.cells #[.int .i64 0, .slice none 0 0] 52)) := ((Below.refl _ _).alloc (Nat.le_refl _) _).alloc (by simp) _
  have hs0 : ((w.alloc (.cells #[.int .i64 0, .slice none 0 0] 25)).alloc (.cells #[.int .i64 0, .slice none 0 0] 52)).heap.size = w.heap.size + 2 := by simp
  go_enter Try.func43, Try.ntmps43
  go_wp2_with fail
  (with_reducible refine (open_any w.heap.size A c zs _ ((h.alloc (Nat.le_refl _) _).alloc (by simp) _) (by simp; omega)).mono ?_)
  rintro e w1 ⟨zs, rfl, hr1, hb1, hz1⟩
  have z1 : FlowBox w1 w.heap.size (.int .i64 0) (.slice none 0 0) := (hb1.block _ y1.lt).trans y1
  have z2 := y2.then_ hb1
  have b1 := bthen b0 hb1
  rw [hs0] at hr1 hz1
  clear y1 y2 hb1 b0 hs0
  go_wp2_with fail
  (with_reducible refine (l91Both_any w.heap.size (w.heap.size + 2) A c zs 0 w1 hr1 (by omega)).mono ?_)
  rintro e w2 ⟨ver, SA, sc, ss, st, D, d, done, p2, rfl, hB, _⟩
  have u1 := z1.keepG hB.grown (by omega)
  have u2 := z2.keep_ hB.grown (by omega)
  obtain ⟨a0, a1⟩ := u1.cells
  obtain ⟨c0, c1⟩ := u2.cells
  have af := fun i => u1.free i
  have cf := fun i => u2.free i
  have hm : TopMid w w2 SA sc ss D d done := ⟨hB.steps.base_ (by omega) (by omega), hB.own.base_ (by omega), b1.trans (grown_below hB.grown (by omega) (by omega))⟩
  have h1 := hB.one
  have h6 := hB.six
  have Hsm := Lib.hid hB.small
  have hl7 := hB.len
  have Hx := Lib.hid hB.sizes
  clear hB u1 u2 z1 z2 b1 hr1
  go_wp2_with fail
  refine bodyPost_ret (v := .tuple #[.agg #[.int .i64 ver, .slice SA ss.length sc], .agg #[.int .i64 st, .slice D done.length d]]) (by simp [results, Try.results43, go_sem, a0, a1, c0, c1]) rfl ?_
  refine ⟨ver, SA, sc, ss, st, D, d, done, rfl, TopMid.fin ?_ h1 h6 Hsm.out hl7 Hx.out⟩
  repeat (first | exact hm | refine TopMid.set0 ?_ _ _ | refine TopMid.set1 ?_ _ _)


set_option maxHeartbeats 2000000 in
theorem drawRunFail_any (A : Option Addr) (c : Nat) (zs : List Int) (w : World) (h : Byts w w.heap.size A c zs) :
    Calls Try.prog 47 #[.slice A zs.length c] w (DrawnNextTop w) := by
  have y1 : FlowBox ((w.alloc (.cells #[.int .i64 0, .slice none 0 0] 25)).alloc (.cells #[.int .i64 0, .slice none 0 0] 52)) w.heap.size (.int .i64 0) (.slice none 0 0) := (Below.heap_alloc _ _ _ (by simp)).trans (FlowBox.new w _ _)
  have y2 : RBox ((w.alloc (.cells #[.int .i64 0, .slice none 0 0] 25)).alloc (.cells #[.int .i64 0, .slice none 0 0] 52)) (w.heap.size + 1) (.int .i64 0) (.slice none 0 0) := RBox.new_at _ _ _ (by simp)
  have b0 : Below w.heap.size w ((w.alloc (.cells #[.int .i64 0, .slice none 0 0] 25)).alloc (.cells #[.int .i64 0, .slice none 0 0] 52)) := ((Below.refl _ _).alloc (Nat.le_refl _) _).alloc (by simp) _
  have hs0 : ((w.alloc (.cells #[.int .i64 0, .slice none 0 0] 25)).alloc (.cells #[.int .i64 0, .slice none 0 0] 52)).heap.size = w.heap.size + 2 := by simp
  go_enter Try.func47, Try.ntmps47
  go_wp2_with fail
  (with_reducible refine (open_any w.heap.size A c zs _ ((h.alloc (Nat.le_refl _) _).alloc (by simp) _) (by simp; omega)).mono ?_)
  rintro e w1 ⟨zs, rfl, hr1, hb1, hz1⟩
  have z1 : FlowBox w1 w.heap.size (.int .i64 0) (.slice none 0 0) := (hb1.block _ y1.lt).trans y1
  have z2 := y2.then_ hb1
  have b1 := bthen b0 hb1
  rw [hs0] at hr1 hz1
  clear y1 y2 hb1 b0 hs0
  go_wp2_with fail
  (with_reducible refine (l91Next_any w.heap.size (w.heap.size + 2) A c zs 0 w1 hr1 (by omega)).mono ?_)
  rintro e w2 ⟨ver, SA, sc, ss, st, D, d, done, nm, p2, rfl, hnm, hB⟩
  have u1 := z1.keepG hB.grown (by omega)
  have u2 := z2.keep_ hB.grown (by omega)
  obtain ⟨a0, a1⟩ := u1.cells
  obtain ⟨c0, c1⟩ := u2.cells
  have af := fun i => u1.free i
  have cf := fun i => u2.free i
  have hm : TopMid w w2 SA sc ss D d done := ⟨hB.steps.base_ (by omega) (by omega), hB.own.base_ (by omega), b1.trans (grown_below hB.grown (by omega) (by omega))⟩
  have h1 := hB.one
  have h6 := hB.six
  have Hsm := Lib.hid hB.small
  have hl7 := hB.len
  have Hx := Lib.hid hB.sizes
  clear hB u1 u2 z1 z2 b1 hr1
  go_wp2_with fail
  refine bodyPost_ret (v := .tuple #[.agg #[.int .i64 ver, .slice SA ss.length sc], .agg #[.int .i64 st, .slice D done.length d], .string nm]) (by simp [results, Try.results47, go_sem, a0, a1, c0, c1]) rfl ?_
  refine ⟨ver, SA, sc, ss, st, D, d, done, nm, rfl, hnm, TopMid.fin ?_ h1 h6 Hsm.out hl7 Hx.out⟩
  repeat (first | exact hm | refine TopMid.set0 ?_ _ _ | refine TopMid.set1 ?_ _ _)

end Go.Proofs.Ytfkjcldaclkkaaa
