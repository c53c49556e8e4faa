/- Contracts of the draws of a flow from a code: DrawFlowValid, DrawFlowOrder, DrawRunNew. No condition. -/
import Derived.Test.YtcdccdgegmnhnaaDrawFlow
namespace Go.Proofs.Ytcdccdgegmnhnaa
set_option linter.unusedVariables false
set_option maxRecDepth 100000
open Go.RowKit

/-- A flow is drawn from a code. -/
def DrawnFlowTop (w : World) (e : Ending) (w' : World) : Prop :=
  ∃ (ver : Int) (SA : Option Addr) (sc : Nat) (ss : List St), e = .returned (.agg #[.int .i64 ver, .slice SA ss.length sc]) ∧ Sts w' w'.heap.size SA sc ss ∧ 1 ≤ ss.length ∧ ss.length ≤ 6 ∧
    (∀ s ∈ ss, (1 ≤ s.name.size ∧ s.name.size ≤ 6) ∧ s.after.length ≤ 4 ∧ ∀ x ∈ s.after, x.size ≤ 6) ∧ Below w.heap.size w w'
theorem Byts.alloc {w : World} {B c : Nat} {A : Option Addr} {zs : List Int} (h : Byts w B A c zs) (hB : B ≤ w.heap.size) (o : Obj) : Byts (w.alloc o) B A c zs := h.keep fun p hp => World.cell?_alloc_lt w o p (by omega)

set_option maxHeartbeats 1000000 in
theorem drawFlowValid_any (A : Option Addr) (c : Nat) (zs : List Int) (w : World) (h : Byts w w.heap.size A c zs) :
    Calls Try.prog 28 #[.slice A zs.length c] w (DrawnFlowTop w) := by
  go_enter Try.func28, Try.ntmps28
  go_wp2_with fail
  (with_reducible refine (open_any w.heap.size A c zs _ (h.alloc (Nat.le_refl _) _) (by simp)).mono ?_)
  rintro e w1 ⟨zs, rfl, hr1, hb1, hz1⟩
  have hres1 : FlowBox w1 w.heap.size (.int .i64 0) (.slice none 0 0) := (hb1.block w.heap.size (by simp)).trans (FlowBox.new w _ _)
  have hb1' : Below w.heap.size w w1 := bthen ((Below.refl _ _).alloc (Nat.le_refl _) _) hb1
  simp at hr1 hz1
  go_wp2_with fail
  (with_reducible refine (l91Flow_any _ _ _ _ _ _ _ hr1 (by omega)).mono ?_)
  rintro e w2 ⟨ver, SA, sc, ss, p2, rfl, ho2, h1, h6, hsm, hp2, hr2, hg2⟩
  have hres2 : FlowBox w2 w.heap.size (.int .i64 0) (.slice none 0 0) := (hg2.block w.heap.size hres1.lt (fun e => by injection e with e; omega)).trans hres1
  obtain ⟨r0, r1⟩ := hres2.cells
  have rf := fun i => hres2.free i
  have hne : ∀ q, SA = some q → q.block ≠ w.heap.size := fun q e => by have := (ho2.blocks q e).1; have := hres1.lt; omega
  have ho3 := fun u v => Lib.hid ((ho2.set (p := ⟨w.heap.size, 0, none⟩) u hres1.lt hne).set (p := ⟨w.heap.size, 1, none⟩) v hres1.lt hne).sts
  have hb2 : Below w.heap.size w w2 := hb1'.trans (grown_below hg2 (by omega) (by omega))
  go_wp2_with fail
  refine bodyPost_ret (v := .agg #[.int .i64 ver, .slice SA ss.length sc]) (by simp [results, Try.results28, go_sem, r0, r1]) rfl ?_
  exact ⟨ver, SA, sc, ss, rfl, (ho3 _ _).out, h1, h6, hsm, (hb2.setCell (Nat.le_refl _) _).setCell (by show w.heap.size ≤ w.heap.size; omega) _⟩


end Go.Proofs.Ytcdccdgegmnhnaa
