/- Contracts of the draws of a flow and a name from a code: DrawFlowFind, DrawFlowBehind. No condition. -/
import Derived.Test.YtdjgpoenlmhonaaDrawRuns
namespace Go.Proofs.Ytdjgpoenlmhonaa
set_option linter.unusedVariables false
set_option maxRecDepth 100000
open Go.RowKit

/-- A flow and a name, drawn from a code. -/
def DrawnFindTop (w : World) (e : Ending) (w' : World) : Prop :=
  ∃ (ver : Int) (SA : Option Addr) (sc : Nat) (ss : List St) (nm : ByteArray), e = .returned (.tuple #[.agg #[.int .i64 ver, .slice SA ss.length sc], .string nm]) ∧ nm.size ≤ 6 ∧ BothTop w w' SA sc ss none 0 [] ∧ Below w.heap.size w w'

theorem TopMid.drewX {w wr : World} {SA : Option Addr} {sc : Nat} {ss : List St} {D : Option Addr} {d : Nat} {done : List ByteArray} (m : TopMid w wr SA sc ss D d done) : TopMid w wr.drew SA sc ss D d done :=
  ⟨m.steps.drew, own_move m.own fun _ _ _ => rfl, m.low.drew⟩

set_option maxHeartbeats 4000000 in
theorem drawFlowBehind_any (A : Option Addr) (c : Nat) (zs : List Int) (w : World) (h : Byts w w.heap.size A c zs) :
    Calls Try.prog 4 #[.slice A zs.length c] w (DrawnFindTop w) := by
  have y1 : FlowBox (w.alloc (.cells #[.int .i64 0, .slice none 0 0] 25)) w.heap.size (.int .i64 0) (.slice none 0 0) := FlowBox.new w _ _
  have b0 : Below w.heap.size w (w.alloc (.cells #[.int .i64 0, .slice none 0 0] 25)) := (Below.refl _ _).alloc (Nat.le_refl _) _
  have hs0 : (w.alloc (.cells #[.int .i64 0, .slice none 0 0] 25)).heap.size = w.heap.size + 1 := by simp
  go_enter Try.func4, Try.ntmps4
  go_wp2_with fail
  (with_reducible refine (open_any w.heap.size A c zs _ (h.alloc (Nat.le_refl _) _) (by simp)).mono ?_)
  rintro e w1 ⟨zs, rfl, hr1, hb1, hz1⟩
  have z1 : FlowBox w1 w.heap.size (.int .i64 0) (.slice none 0 0) := (hb1.block _ y1.lt).trans y1
  have b1 := bthen b0 hb1
  rw [hs0] at hr1 hz1
  have hgl := hr1.lt
  clear y1 hb1 b0 hs0
  go_wp2_with fail
  (with_reducible refine (l91Flow_any w.heap.size (w.heap.size + 1) A c zs 0 w1 hr1 (by omega)).mono ?_)
  rintro e w2 ⟨ver, SA, sc, ss, p2, rfl, ho2, h1, h6, hsm, hp2, hr2, hg2⟩
  have z2 := z1.keepG hg2 (by omega)
  have hz2 := hg2.size
  have bw2 : Below w.heap.size w w2 := b1.trans (grown_below hg2 (by omega) (by omega))
  clear z1 b1 hr1 hg2
  have bx2 : FlowBox (w2.alloc (.cells #[.int .i64 ver, .slice SA ss.length sc] 25)) w2.heap.size (.int .i64 ver) (.slice SA ss.length sc) := FlowBox.new w2 _ _
  have v2 : FlowBox (w2.alloc (.cells #[.int .i64 ver, .slice SA ss.length sc] 25)) w.heap.size (.int .i64 0) (.slice none 0 0) := (Below.heap_alloc _ _ _ z2.lt).trans z2
  have bd2 : Below w.heap.size w (w2.alloc (.cells #[.int .i64 ver, .slice SA ss.length sc] 25)) := bw2.alloc (by omega) _
  have od2 := ho2.alloc (.cells #[.int .i64 ver, .slice SA ss.length sc] 25)
  go_wp2_with fail
  (with_reducible refine (pick_any w.heap.size (w.heap.size + 1) A c zs p2 _ _ (hr2.alloc _) (by omega)).mono ?_)
  rintro e w4 ⟨v, rfl, hv0, hv1, hr4, hg4⟩
  have bx4 := bx2.keepG hg4 (by omega)
  have v4 := v2.keepG hg4 (by omega)
  have hz4 := hg4.size
  have bd4 : Below w.heap.size w w4 := bd2.trans (grown_below hg4 (by omega) (by simp; omega))
  have od4 := od2.grown hg4 (by omega) (by omega)
  clear bx2 v2 bd2 od2 hg4 hr2 ho2 z2 bw2
  have hz5 : w2.heap.size < w4.heap.size := bx4.lt
  have bx : FlowBox w4.drew w2.heap.size (.int .i64 ver) (.slice SA ss.length sc) := bx4
  have v1 : FlowBox w4.drew w.heap.size (.int .i64 0) (.slice none 0 0) := v4
  have bd : Below w.heap.size w w4.drew := bd4.drew
  have od := od4.drew
  have S0 := bx.cells
  have hne0 : ∀ i j, (⟨w.heap.size, i, none⟩ : Addr) ≠ ⟨w2.heap.size, j, none⟩ := fun i j e => by injection e with e; omega
  have Hne0 := Lib.hid hne0
  clear hne0
  have Hsm := Lib.hid hsm
  by_cases hv : v = 0
  · subst hv
    obtain ⟨ad, A1, c1, rfl, had, hc0, _⟩ := od.sts.at_ (k := 0) (by omega)
    have hns := (Hsm.out _ (List.getElem_mem (show 0 < ss.length by omega))).1.2
    have hadl := od.blocks ad rfl
    have had0 : ad.add (0 * 3) = ad := by unfold Addr.add; simp
    rw [had0] at hc0
    have hi1 : (0 : Int) < ss.length := by omega
    have hi2 : 0 < ss.length := by omega
    have hlt4 := v1.lt
    obtain ⟨nm, hnm⟩ : ∃ nm, nm = ss[0].name := ⟨_, rfl⟩
    rw [← hnm] at hc0 hns
    obtain ⟨a0, a1⟩ := v1.cells
    have af := fun i => v1.free i
    obtain ⟨x0, x1⟩ := S0
    obtain ⟨b0, b1⟩ := v4.cells
    have bf := fun i => v4.free i
    obtain ⟨d0, d1⟩ := bx4.cells
    have hc0' : w4.cell? ad = some (.string nm) := hc0
    have hm : TopMid w w4 (some ad) sc ss none 0 [] := ⟨od4.base_ (by omega) (by omega), OwnStrs.nil_ _ _, bd4⟩
    have hlen := od.sts.len
    have hcap := od.sts.cap
    have hwd : ∀ i j, (⟨w.heap.size, i, none⟩ : Addr) ≠ ⟨w2.heap.size, j, none⟩ := fun i j e => by injection e with e; omega
    have hwn : ∀ i, (⟨w.heap.size, i, none⟩ : Addr) ≠ ad := fun i e => by
      have : w.heap.size = ad.block := congrArg Addr.block e
      omega
    clear hsm hnm od bd bx v1 bx4 v4 bd4 od4
    go_wp2_with fail
    go_region
    all_goals
      go_wp2_with fail
      refine bodyPost_ret (v := .tuple #[.agg #[.int .i64 ver, .slice (some ad) ss.length sc], .string nm]) (by simp [results, Try.results4, go_sem, b0, b1]) rfl ?_
      refine ⟨ver, some ad, sc, ss, nm, rfl, hns, TopMid.fin ?_ h1 h6 Hsm.out (by simp) (by simp)⟩
      repeat (first | exact hm | refine TopMid.drewX ?_ | refine TopMid.set0 ?_ _ _)
  · have e0 : (v == 0) = false := beq_eq_false_iff_ne.2 hv
    have KA := Lib.hid (l91At_any w.heap.size (w.heap.size + 1) A c zs (p2 + 1) ver SA sc ss w4.drew (hr4.keep fun _ _ => rfl) (by omega) (StsG.of_ od (by omega) (by omega)) h1 h6 (Lib.hid (fun s hs => (hsm s hs).1.2)))
    clear hv hsm
    go_wp2_with fail
    go_region_held3 (fun wx => wx.cell? ⟨w2.heap.size, 0, none⟩ = some (.int .i64 ver) ∧ wx.cell? ⟨w2.heap.size, 1, none⟩ = some (.slice SA ss.length sc))
      (first | exact S3 | exact S0 | exact And.intro (cell_st (Hne0.out _ _) (cell_st (Hne0.out _ _) S3.1)) (cell_st (Hne0.out _ _) (cell_st (Hne0.out _ _) S3.2)))
      ((go_at_call 12; (with_reducible refine KA.out.mono ?_); rintro e w3 ⟨nm, p3, rfl, hnm, hp3, hr3, hg3⟩; have u1 := v1.keepG hg3 (by omega); have S3 := (bx.keepG hg3 (by omega)).cells; obtain ⟨a0, a1⟩ := u1.cells; have af := fun i => u1.free i))
    have hm : TopMid w w3 SA sc ss none 0 [] := ⟨(od.grown hg3 (by omega) (by omega)).base_ (by omega) (by omega), OwnStrs.nil_ _ _, bd.trans (grown_below hg3 (by omega) (by show _ ≤ w4.heap.size; omega))⟩
    clear KA hg3 hr3 od bd
    all_goals
      go_wp2_with fail
      refine bodyPost_ret (v := .tuple #[.agg #[.int .i64 ver, .slice SA ss.length sc], .string nm]) (by simp [results, Try.results4, go_sem, a0, a1]) rfl ?_
      refine ⟨ver, SA, sc, ss, nm, rfl, hnm, TopMid.fin ?_ h1 h6 Hsm.out (by simp) (by simp)⟩
      repeat (first | exact hm | refine TopMid.set0 ?_ _ _)
end Go.Proofs.Ytdjgpoenlmhonaa
