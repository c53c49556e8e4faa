/- Contract of the draw of a step: DrawStepValid. No condition. -/
import Derived.Test.YtcdccdgegmnhnaaDrawStep
namespace Go.Proofs.Ytcdccdgegmnhnaa
set_option linter.unusedVariables false
set_option maxRecDepth 100000
open Go.RowKit

set_option maxHeartbeats 400000 in
theorem drawStepValid_any (A : Option Addr) (c : Nat) (zs : List Int) (w : World) (h : Byts w w.heap.size A c zs) :
    Calls Try.prog 22 #[.slice A zs.length c] w fun e w' => ∃ (nm : ByteArray) (A' : Option Addr) (c' : Nat) (xs : List ByteArray) (u : Bool), e = .returned (.agg #[.string nm, .slice A' xs.length c', .bool u]) ∧ nm.size ≤ 6 ∧ Strs w' w'.heap.size A' c' xs ∧ xs.length ≤ 5 ∧ (∀ x ∈ xs, x.size ≤ 6) ∧ Below w.heap.size w w' := by
  go_enter Try.func22, Try.ntmps22
  go_wp2_with fail
  obtain ⟨wi, hwi⟩ : ∃ wi, wi = w.alloc (.cells #[.string ⟨#[]⟩, .slice none 0 0, .bool false] 34) := ⟨_, rfl⟩
  have hwz : wi.heap.size = w.heap.size + 1 := by rw [hwi]; simp
  have hres : StepBox wi w.heap.size (.string ⟨#[]⟩) (.slice none 0 0) (.bool false) := by rw [hwi]; exact StepBox.new w _ _ _
  have hwb : Below w.heap.size w wi := by rw [hwi]; exact (Below.refl _ _).alloc (Nat.le_refl _) _
  have hzi : Byts wi wi.heap.size A c zs := by rw [hwi]; exact (h.keep fun p hp => World.cell?_alloc_lt w _ p (by omega)).more (by simp)
  rw [← hwi]
  clear hwi h
  refine (open_any wi.heap.size A c zs wi hzi (Nat.le_refl _)).mono ?_
  rintro e w1 ⟨zs, rfl, hr1, hb1, hz1⟩
  have hz1' : wi.heap.size < w1.heap.size := by omega
  clear hz1
  go_wp2_with fail
  rw [← hwz]
  (with_reducible refine (l91Step_any wi.heap.size wi.heap.size A c zs 0 w1 hr1 (by omega)).mono ?_)
  rintro e w2 ⟨nm, A', c', xs, u, p', rfl, hn6, ho, hx5, hx6, hp, hr2, hg2⟩
  have hb2 : Below wi.heap.size wi w2 := hb1.trans (grown_below hg2 (Nat.le_refl _) hb1.size)
  have hres2 := (hb2.block w.heap.size (by omega)).trans hres
  have hb3 := box_set3 (.string nm) (.slice A' xs.length c') (.bool u) hres2
  have hbl3 := set3_below (W := w2) (.string nm) (.slice A' xs.length c') (.bool u) (Nat.le_refl w.heap.size)
  obtain ⟨r0, r1, r2⟩ := StepBox.cells hres2
  have rf := fun i => StepBox.free hres2 i
  obtain ⟨q0, q1, q2⟩ := hb3.cells
  have ho1 := ho.base_ (base' := wi.heap.size) (by omega)
  have hfo := Lib.hid ((((ho1.setLow (a := ⟨w.heap.size, 0, none⟩) (show w.heap.size < wi.heap.size by omega) (.string nm)).setLow (a := ⟨w.heap.size, 1, none⟩) (show w.heap.size < wi.heap.size by omega) (.slice A' xs.length c')).setLow (a := ⟨w.heap.size, 2, none⟩) (show w.heap.size < wi.heap.size by omega) (.bool u)))
  have hfb := Lib.hid ((hwb.trans (hb2.mono (by omega))).trans hbl3)
  clear hb3 hbl3 ho ho1 hb2 hg2 hr2
  go_wp2_with fail
  refine bodyPost_ret (v := .agg #[.string nm, .slice A' xs.length c', .bool u]) (by simp [results, Try.results22, go_sem, q0, q1, q2]) rfl ?_
  exact ⟨nm, A', c', xs, u, rfl, hn6, hfo.out.strs, hx5, hx6, hfb.out⟩
end Go.Proofs.Ytcdccdgegmnhnaa
