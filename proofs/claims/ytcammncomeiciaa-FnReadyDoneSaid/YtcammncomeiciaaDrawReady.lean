/- Contract of the draw of a flow and of done names: DrawFlowReady. No condition. -/
import Derived.Test.YtcammncomeiciaaDrawFlows
import Derived.Test.YtcammncomeiciaaSpecFlows
namespace Go.Proofs.Ytcammncomeiciaa
set_option linter.unusedVariables false
open Go.RowKit

/-- A flow and names are drawn from a code. -/
def DrawnReady (w : World) (e : Ending) (w' : World) : Prop :=
  ∃ (ver : Int) (SA D : Option Addr) (sc d : Nat) (ss : List St) (done : List ByteArray), e = .returned (.tuple #[.agg #[.int .i64 ver, .slice SA ss.length sc], .slice D done.length d]) ∧ Sts w' w'.heap.size SA sc ss ∧ Strs w' w'.heap.size D d done ∧ 1 ≤ ss.length ∧ ss.length ≤ 6 ∧
    (∀ s ∈ ss, (1 ≤ s.name.size ∧ s.name.size ≤ 6) ∧ s.after.length ≤ 4 ∧ ∀ x ∈ s.after, x.size ≤ 6) ∧ done.length ≤ 6 ∧ Below w.heap.size w w'

theorem drawn_names {ss : List St} (h : ∀ s ∈ ss, (1 ≤ s.name.size ∧ s.name.size ≤ 6) ∧ s.after.length ≤ 4 ∧ ∀ x ∈ s.after, x.size ≤ 6) : ∀ s ∈ ss, s.name ≠ ⟨#[]⟩ := by
  intro s hs e
  have := (h s hs).1.1
  rw [e] at this
  exact absurd this (by decide)
theorem FlowBox.keep_ {w w' : World} {b g : Nat} {x y : Value} (h : FlowBox w b x y) (hg : w.grownBy w' (some g)) (hne : b ≠ g) : FlowBox w' b x y := (hg.block b h.lt (fun e => hne (by injection e))).trans h

set_option maxHeartbeats 4000000 in
theorem drawFlowReady_any (A : Option Addr) (c : Nat) (zs : List Int) (w : World) (h : Byts w w.heap.size A c zs) :
    Calls Try.prog 25 #[.slice A zs.length c] w (DrawnReady w) := by
  go_enter Try.func25, Try.ntmps25
  go_wp2_with fail
  (with_reducible refine (open_any w.heap.size A c zs _ (h.alloc (Nat.le_refl _) _) (by simp)).mono ?_)
  rintro e w1 ⟨zs, rfl, hr1, hb1, hz1⟩
  have hres1 : FlowBox w1 w.heap.size (.int .i64 0) (.slice none 0 0) := (hb1.block w.heap.size (by simp)).trans (FlowBox.new w _ _)
  have hb1' : Below w.heap.size w w1 := bthen ((Below.refl _ _).alloc (Nat.le_refl _) _) hb1
  simp at hr1 hz1
  go_wp2_with fail
  (with_reducible refine (l91Flow_any _ _ _ _ _ _ _ hr1 (by omega)).mono ?_)
  rintro e w2 ⟨ver, SA, sc, ss, p2, rfl, ho2, h1, h6, hsm, hp2, hr2, hg2⟩
  have hres2 := hres1.keep_ hg2 (by omega)
  have hb2 : Below w.heap.size w w2 := hb1'.trans (grown_below hg2 (by omega) (by omega))
  have hz2 : w.heap.size + 1 < w2.heap.size := by have := hg2.size; omega
  have hw1 : w.heap.size + 1 < w1.heap.size := hr1.lt
  go_wp2_with fail
  (with_reducible refine (pick_any _ _ _ _ _ p2 _ _ (hr2.alloc _) (by omega)).mono ?_)
  rintro e w3 ⟨v3, rfl, hv30, hv31, hr3, hg3⟩
  have hbox3 := (FlowBox.new w2 (.int .i64 ver) (.slice SA ss.length sc)).keep_ hg3 (by omega)
  have hres3 : FlowBox w3 w.heap.size (.int .i64 0) (.slice none 0 0) := FlowBox.keep_ ((Below.heap_alloc _ _ _ hres2.lt).trans hres2) hg3 (by omega)
  have ho3 := (ho2.alloc (.cells #[.int .i64 ver, .slice SA ss.length sc] 25)).grown hg3 (by omega) (by omega)
  have hb3 : Below w.heap.size w w3 := (hb2.alloc (by omega) _).trans (grown_below hg3 (by omega) (by simp; omega))
  have hz3 : w2.heap.size < w3.heap.size := hbox3.lt
  have hn := Lib.hid (drawn_names hsm)
  have Hsm := Lib.hid hsm
  clear hr1 hb1 hb1' hz1 hres1 hr2 hg2 hres2 hb2 ho2 hg3 hsm hv31
  have hneR : ∀ q, SA = some q → q.block ≠ w.heap.size := fun q e => by have := (ho3.blocks q e).1; omega
  obtain ⟨f0, f1⟩ := hbox3.cells
  by_cases hv3 : v3 = 0
  · subst hv3
    have KN := Lib.hid (l91Names_any _ _ _ _ _ _ w3.drew (hr3.keep fun _ _ => rfl) (by omega))
    have hf : ∀ w', w3.drew.grownBy w' (some (w.heap.size + 1)) → w'.cell? ⟨w2.heap.size, 0, none⟩ = some (.int .i64 ver) ∧ w'.cell? ⟨w2.heap.size, 1, none⟩ = some (.slice SA ss.length sc) := fun w' hg =>
      ⟨hg.cell f0 (by intro e; injection e with e; simp at e; omega), hg.cell f1 (by intro e; injection e with e; simp at e; omega)⟩
    have Hf := Lib.hid hf
    clear hf
    have hne2 : ∀ i j, (⟨w.heap.size, i, none⟩ : Addr) ≠ ⟨w2.heap.size, j, none⟩ := fun i j e => by injection e with e; omega
    have Hne := Lib.hid hne2
    clear hne2
    go_upto_region 4 with fail
    go_region_held3 (fun w' => w'.cell? ⟨w2.heap.size, 0, none⟩ = some (.int .i64 ver) ∧ w'.cell? ⟨w2.heap.size, 1, none⟩ = some (.slice SA ss.length sc))
      (first | exact hS9 | exact And.intro f0 f1 | exact And.intro (cell_st (Hne.out _ _) (cell_st (Hne.out _ _) hS9.1)) (cell_st (Hne.out _ _) (cell_st (Hne.out _ _) hS9.2)))
      ((go_at_call 59; (with_reducible refine KN.out.mono ?_); rintro e w9 ⟨A9, c9, xs, p9, rfl, ho9, hx5, hx6, hp9, hr9, hg9⟩; have hS9 := Hf.out _ hg9; have hres9 : FlowBox w9 w.heap.size (.int .i64 0) (.slice none 0 0) := FlowBox.keep_ (w := w3.drew) hres3 hg9 (by omega); obtain ⟨r0, r1⟩ := hres9.cells; have rf := fun i => hres9.free i))
    have hs9 : w3.heap.size ≤ w9.heap.size := hg9.size
    have hb9 : Below w.heap.size w w9 := hb3.drew.trans (grown_below hg9 (by omega) (by show w.heap.size ≤ w3.heap.size; omega))
    have hown9 := Lib.hid fun u v => ((ho3.drew.grown hg9 (by omega) (by omega)).set (p := ⟨w.heap.size, 0, none⟩) u (by show w.heap.size < _; omega) hneR).set (p := ⟨w.heap.size, 1, none⟩) v (by show w.heap.size < _; omega) hneR
    have hx9 := Lib.hid fun u v => (ho9.setLow (a := ⟨w.heap.size, 0, none⟩) (by show w.heap.size < w3.heap.size; omega) u).setLow (a := ⟨w.heap.size, 1, none⟩) (by show w.heap.size < w3.heap.size; omega) v
    go_wp2_with fail
    refine bodyPost_ret (v := .tuple #[.agg #[.int .i64 ver, .slice SA ss.length sc], .slice A9 xs.length c9]) (by simp [results, Try.results25, go_sem, r0, r1]) rfl ?_
    exact ⟨ver, SA, A9, sc, c9, ss, xs, rfl, (hown9.out _ _).sts, (hx9.out _ _).strs, h1, h6, Hsm.out, by omega, (hb9.setCell (Nat.le_refl _) _).setCell (by show w.heap.size ≤ w.heap.size; omega) _⟩
  · have hv3' : (v3 == 0) = false := by simpa using hv3
    go_wp2_with fail
    (with_reducible refine (l2Order_any SA sc ss w3 _ ho3.sts hn.out (by omega)).mono ?_)
    rintro e w5 ⟨A5, c5, rfl, ho5, hb5⟩
    have hol := ordN_length_le ss ss.length
    have hol2 : (ord ss).length ≤ 6 := by unfold ord; omega
    clear hol
    have hr5 := hr3.below hb5 hr3.lt
    have hbox5 : FlowBox w5 w2.heap.size (.int .i64 ver) (.slice SA ss.length sc) := (hb5.block _ hbox3.lt).trans hbox3
    have hres5 : FlowBox w5 w.heap.size (.int .i64 0) (.slice none 0 0) := (hb5.block _ hres3.lt).trans hres3
    have ho5s := ho3.below hb5
    have hz5 := hb5.size
    have t5 := ho5.strs
    have hl5 := t5.len
    have hc5 := t5.cap
    clear f0 f1
    obtain ⟨f0, f1⟩ := hbox5.cells
    obtain ⟨v6, hv60, hv61, hfix⟩ := pick_fix zs (p2 + 1) ((ord ss).length + 1)
    obtain ⟨m, rfl⟩ := Int.eq_ofNat_of_zero_le hv60
    have hm : m ≤ (ord ss).length := by omega
    have hm1 : (m : Int) ≤ c5 := by omega
    have hm0 : (0 : Int) ≤ m := by omega
    have hfk := hfix.keep (W := w5.drew) (hr5.keep fun _ _ => rfl) (by omega) (S := fun w' => (w'.cell? ⟨w2.heap.size, 0, none⟩ = some (.int .i64 ver) ∧ w'.cell? ⟨w2.heap.size, 1, none⟩ = some (.slice SA ss.length sc)) ∧ FlowBox w' w.heap.size (.int .i64 0) (.slice none 0 0))
      (fun w' hg => ⟨⟨hg.cell f0 (by intro e; injection e with e; simp at e; omega), hg.cell f1 (by intro e; injection e with e; simp at e; omega)⟩, FlowBox.keep_ (w := w5.drew) hres5 hg (by omega)⟩)
    have KP := Lib.hid hfk
    have hne2 : ∀ i j, (⟨w.heap.size, i, none⟩ : Addr) ≠ ⟨w2.heap.size, j, none⟩ := fun i j e => by injection e with e; omega
    have Hne := Lib.hid hne2
    clear hne2 hfix hfk hv60 hv61
    have hwr : IntKind.i64.wrap (((ord ss).length : Int) + 1) = ((ord ss).length : Int) + 1 := IntWalk.i64_in _ (by omega)
    go_upto_region 6 with fail
    go_region_held3 (fun w' => w'.cell? ⟨w2.heap.size, 0, none⟩ = some (.int .i64 ver) ∧ w'.cell? ⟨w2.heap.size, 1, none⟩ = some (.slice SA ss.length sc))
      (first | exact hS9 | exact And.intro f0 f1 | exact And.intro (cell_st (Hne.out _ _) (cell_st (Hne.out _ _) hS9.1)) (cell_st (Hne.out _ _) (cell_st (Hne.out _ _) hS9.2)))
      ((go_at_call 58; (with_reducible refine KP.out.mono ?_); rintro e w9 ⟨rfl, hr9, hg9, ⟨hS9, hres9⟩, _, _, hs9⟩; obtain ⟨r0, r1⟩ := hres9.cells; have rf := fun i => hres9.free i))
    have hs9' : w5.heap.size ≤ w9.heap.size := hs9
    have hb9 : Below w.heap.size w w9 := (hb3.trans (hb5.mono (by omega))).drew.trans (grown_below hg9 (by omega) (by show w.heap.size ≤ w5.heap.size; omega))
    have hown9 := Lib.hid fun u v => ((ho5s.drew.grown hg9 (by omega) (by omega)).set (p := ⟨w.heap.size, 0, none⟩) u (by show w.heap.size < _; omega) hneR).set (p := ⟨w.heap.size, 1, none⟩) v (by show w.heap.size < _; omega) hneR
    have hx9 := Lib.hid fun u v => ((own_move (w' := w9) ho5 (fun k h1 h2 => hg9.block k h2 (fun e => by injection e with e; omega))).setLow (a := ⟨w.heap.size, 0, none⟩) (by show w.heap.size < w3.heap.size; omega) u).setLow (a := ⟨w.heap.size, 1, none⟩) (by show w.heap.size < w3.heap.size; omega) v
    go_wp2_with fail
    refine bodyPost_ret (v := .tuple #[.agg #[.int .i64 ver, .slice SA ss.length sc], .slice A5 m c5]) (by simp [results, Try.results25, go_sem, r0, r1]) rfl ?_
    have hml : ((ord ss).take m).length = m := by rw [List.length_take]; omega
    exact ⟨ver, SA, A5, sc, c5, ss, (ord ss).take m, by rw [hml], (hown9.out _ _).sts, (hx9.out _ _).strs.take m, h1, h6, Hsm.out, by omega, (hb9.setCell (Nat.le_refl _) _).setCell (by show w.heap.size ≤ w.heap.size; omega) _⟩
end Go.Proofs.Ytcammncomeiciaa
