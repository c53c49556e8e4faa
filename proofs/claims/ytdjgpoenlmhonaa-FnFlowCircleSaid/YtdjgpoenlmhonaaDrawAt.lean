/- Contract of the draw of a step's name: l91At. Condition: the place is small. -/
import Derived.Test.YtdjgpoenlmhonaaDrawFlows
import Derived.Test.YtdjgpoenlmhonaaDrawNames
import Derived.Test.YtdjgpoenlmhonaaRuns
import Derived.Test.YtdjgpoenlmhonaaRunBox
namespace Go.Proofs.Ytdjgpoenlmhonaa
set_option linter.unusedVariables false
set_option maxRecDepth 100000
open Go.RowKit

/-- The steps stay while only the reader's block and new ones turn. -/
def StsG (w : World) (g : Nat) (SA : Option Addr) (sc : Nat) (ss : List St) : Prop := ∀ w', w.grownBy w' (some g) → Sts w' w'.heap.size SA sc ss
section
variable {w w' : World} {g sc lo lo2 : Nat} {SA : Option Addr} {ss : List St}
theorem StsG.of_ (h : OwnSteps w lo lo2 SA sc ss) (h1 : g < lo) (h2 : g < lo2) : StsG w g SA sc ss := fun _ hg => (h.grown hg h1 h2).sts
theorem StsG.to (h : StsG w g SA sc ss) (hg : w.grownBy w' (some g)) : Sts w' w'.heap.size SA sc ss := h _ hg
theorem StsG.here (h : StsG w g SA sc ss) : Sts w w.heap.size SA sc ss := h w (World.grownBy.refl w _)
theorem StsG.go (h : StsG w g SA sc ss) (hg : w.grownBy w' (some g)) : StsG w' g SA sc ss := fun _ hg2 => h _ (grown_trans hg hg2)
end
theorem StsG.name {w : World} {g sc : Nat} {p : Addr} {ss : List St} (h : StsG w g (some p) sc ss) {k : Nat} (hk : k < ss.length) : ∀ w', w.grownBy w' (some g) → w'.cell? (p.add (k * 3)) = some (.string ss[k].name) := by
  intro w' hg
  obtain ⟨ad, A1, c1, e, _, hc0, _⟩ := (h w' hg).at_ hk
  injection e with e
  subst e
  exact hc0
theorem FlowBox.keepG {w w' : World} {b g : Nat} {x y : Value} (h : FlowBox w b x y) (hg : w.grownBy w' (some g)) (hne : b ≠ g) : FlowBox w' b x y := (hg.block b h.lt (fun e => hne (by injection e))).trans h

set_option maxHeartbeats 2000000 in
theorem l91At_any (B g : Nat) (A : Option Addr) (c : Nat) (zs : List Int) (p : Nat) (ver : Int) (SA : Option Addr) (sc : Nat) (ss : List St) (w : World) (h : Rdr w B g A c zs p) (hp : p ≤ 850000) (hf : StsG w g SA sc ss) (h1 : 1 ≤ ss.length) (h6 : ss.length ≤ 6) (hsm : Hid (∀ s ∈ ss, s.name.size ≤ 6)) :
    Calls Try.prog 12 #[.pointer (some ⟨g, 0, none⟩), flowV ver SA ss.length sc] w (DrawnStr B g A c zs p 3 w) := by
  have hgl := h.lt
  have hl1 := hf.here.len
  have hl2 := hf.here.cap
  go_enter Try.func12, Try.ntmps12
  go_wp2_with fail
  (with_reducible refine (pick_any B g A c zs p _ _ (h.alloc _) (by omega)).mono ?_)
  rintro e w1 ⟨v, rfl, hv0, hv1, hr1, hg1⟩
  have hgw : w.grownBy w1 (some g) := grown_trans (World.grownBy_alloc _ _ _) hg1
  have hbox := (FlowBox.new w (.int .i64 ver) (.slice SA ss.length sc)).keepG hg1 (by omega)
  obtain ⟨f0, f1⟩ := hbox.cells
  have hf1 := hf.go hgw
  clear hg1
  by_cases hv : 0 < v
  · obtain ⟨v2, hv20, hv21, hfix⟩ := pick_fix zs (p + 1) ss.length
    obtain ⟨m, rfl⟩ := Int.eq_ofNat_of_zero_le hv20
    have hm : m < ss.length := by omega
    obtain ⟨ad, A1, c1, rfl, _, hc0, _⟩ := hf1.here.at_ hm
    have hnm := hf1.name hm
    have KP := Lib.hid (hfix.keep (W := w1.drew) (hr1.keep fun _ _ => rfl) (by omega) (S := fun w' => w'.cell? ⟨w.heap.size, 0, none⟩ = some (.int .i64 ver) ∧ w'.cell? ⟨w.heap.size, 1, none⟩ = some (.slice (some ad) ss.length sc) ∧ w'.cell? (ad.add (m * 3)) = some (.string ss[m].name))
      (fun w' hg => ⟨(FlowBox.keepG (w := w1.drew) hbox hg (by omega)).cells.1, (FlowBox.keepG (w := w1.drew) hbox hg (by omega)).cells.2, hnm w' ⟨hg.os, hg.tape, hg.output, hg.size, hg.block⟩⟩))
    have hm0 : (0 : Int) ≤ m := by omega
    have hm1 : (m : Int) < ss.length := by omega
    have hS0 : w1.drew.cell? ⟨w.heap.size, 0, none⟩ = some (.int .i64 ver) ∧ w1.drew.cell? ⟨w.heap.size, 1, none⟩ = some (.slice (some ad) ss.length sc) ∧ w1.drew.cell? (ad.add (m * 3)) = some (.string ss[m].name) := ⟨f0, f1, hc0⟩
    have hsz := Lib.hid (hsm.out _ (List.getElem_mem hm))
    clear hnm hfix hv21 hv20 hc0
    go_wp2_with fail
    go_region_held3 (fun w' => w'.cell? ⟨w.heap.size, 0, none⟩ = some (.int .i64 ver) ∧ w'.cell? ⟨w.heap.size, 1, none⟩ = some (.slice (some ad) ss.length sc) ∧ w'.cell? (ad.add (m * 3)) = some (.string ss[m].name))
      (first | exact hS9 | exact hS0)
      ((go_at_call 11; (with_reducible refine KP.out.mono ?_); rintro e w9 ⟨rfl, hr9, hg9, hS9, _, _, hs9⟩))
    go_wp2_with fail
    go_ret
    exact ⟨ss[m].name, p + 1 + 1, rfl, hsz.out, by omega, hr9, grown_trans hgw ⟨hg9.os, hg9.tape, hg9.output, hg9.size, hg9.block⟩⟩
  · have hv' : ¬ 0 < v := hv
    go_wp2_with fail
    (with_reducible refine (l91Name_any B g A c zs (p + 1) w1 hr1 (by omega)).mono ?_)
    rintro e w2 ⟨s, p', rfl, hs, hp', hr2, hg2⟩
    go_wp2_with fail
    go_ret
    exact ⟨s, p', rfl, hs, by omega, hr2, grown_trans hgw hg2⟩
end Go.Proofs.Ytdjgpoenlmhonaa
