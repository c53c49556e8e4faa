/- Contract of the draw of a run that often goes back: DrawRunUndo. No condition. -/
import Derived.Test.YtnekjmpmjadmhaaDrawRuns
namespace Go.Proofs.Ytnekjmpmjadmhaa
set_option linter.unusedVariables false
set_option maxRecDepth 100000
open Go.RowKit

/-- What the draw knows between its statements. -/
structure UndoSt (w : World) (A : Option Addr) (c : Nat) (zs : List Int) (ver : Int) (SA : Option Addr) (sc : Nat) (ss : List St) (st : Int) (D : Option Addr) (d : Nat) (done : List ByteArray) (fb : Nat) (wr : World) (p : Nat) : Prop where
  steps : OwnSteps wr (w.heap.size + 3) (w.heap.size + 3) SA sc ss
  own : OwnStrs wr (w.heap.size + 3) D d done
  rd : Rdr wr w.heap.size (w.heap.size + 2) A c zs p
  low : Below w.heap.size w wr
  fbox : FlowBox wr fb (.int .i64 ver) (.slice SA ss.length sc)
  rbox : RBox wr (fb + 1) (.int .i64 st) (.slice D done.length d)
  fres : FlowBox wr w.heap.size (.int .i64 0) (.slice none 0 0)
  rres : RBox wr (w.heap.size + 1) (.int .i64 0) (.slice none 0 0)
  lt : w.heap.size + 3 ≤ fb
section
variable {w wr w' : World} {A : Option Addr} {c : Nat} {zs : List Int} {p p' : Nat} {ver st : Int} {SA : Option Addr} {sc : Nat} {ss : List St} {D : Option Addr} {d : Nat} {done : List ByteArray} {fb : Nat}
theorem UndoSt.after (m : UndoSt w A c zs ver SA sc ss st D d done fb wr p) (hr : Rdr w' w.heap.size (w.heap.size + 2) A c zs p') (hg : wr.grownBy w' (some (w.heap.size + 2))) : UndoSt w A c zs ver SA sc ss st D d done fb w' p' := by
  have h2 := m.lt
  exact ⟨m.steps.grown hg (by omega) (by omega), own_move m.own fun k h1 h2 => hg.block k h2 (fun e => by injection e with e; omega), hr, m.low.trans (grown_below hg (by omega) m.low.size),
    m.fbox.keepG hg (by omega), m.rbox.keep_ hg (by omega), m.fres.keepG hg (by omega), m.rres.keep_ hg (by omega), h2⟩
theorem UndoSt.below_ (m : UndoSt w A c zs ver SA sc ss st D d done fb wr p) (hb : Below wr.heap.size wr w') : UndoSt w A c zs ver SA sc ss st D d done fb w' p :=
  m.after (m.rd.below hb m.rd.lt) (below_grown hb)
end

theorem TopMid.drew {w wr : World} {SA : Option Addr} {sc : Nat} {ss : List St} {D : Option Addr} {d : Nat} {done : List ByteArray} (m : TopMid w wr SA sc ss D d done) : TopMid w wr.drew SA sc ss D d done :=
  ⟨m.steps.drew, own_move m.own fun _ _ _ => rfl, m.low.drew⟩
set_option maxHeartbeats 8000000 in
theorem drawRunUndo_any (A : Option Addr) (c : Nat) (zs : List Int) (w : World) (h : Byts w w.heap.size A c zs) :
    Calls Try.prog 13 #[.slice A zs.length c] w (DrawnBothTop w) := by
  have y1 : FlowBox ((w.alloc (.cells #[.int .i64 0, .slice none 0 0] 25)).alloc (.cells #[.int .i64 0, .slice none 0 0] 28)) w.heap.size (.int .i64 0) (.slice none 0 0) := (Below.heap_alloc _ _ _ (by simp)).trans (FlowBox.new w _ _)
  have y2 : RBox ((w.alloc (.cells #[.int .i64 0, .slice none 0 0] 25)).alloc (.cells #[.int .i64 0, .slice none 0 0] 28)) (w.heap.size + 1) (.int .i64 0) (.slice none 0 0) := RBox.new_at _ _ _ (by simp)
  have b0 : Below w.heap.size w ((w.alloc (.cells #[.int .i64 0, .slice none 0 0] 25)).alloc (.cells #[.int .i64 0, .slice none 0 0] 28)) := ((Below.refl _ _).alloc (Nat.le_refl _) _).alloc (by simp) _
  have hs0 : ((w.alloc (.cells #[.int .i64 0, .slice none 0 0] 25)).alloc (.cells #[.int .i64 0, .slice none 0 0] 28)).heap.size = w.heap.size + 2 := by simp
  go_enter Try.func13, Try.ntmps13
  go_wp2_with fail
  (with_reducible refine (open_any w.heap.size A c zs _ ((h.alloc (Nat.le_refl _) _).alloc (by simp) _) (by simp; omega)).mono ?_)
  rintro e w1 ⟨zs, rfl, hr1, hb1, hz1⟩
  have z1 : FlowBox w1 w.heap.size (.int .i64 0) (.slice none 0 0) := (hb1.block _ y1.lt).trans y1
  have z2 := y2.then_ hb1
  have b1 := bthen b0 hb1
  rw [hs0] at hr1 hz1
  clear y1 y2 hb1 b0 hs0
  go_wp2_with fail
  (with_reducible refine (l91Both_any w.heap.size (w.heap.size + 2) A c zs 0 w1 hr1 (by omega)).mono ?_)
  rintro e w2 ⟨ver, SA, sc, ss, st, D, d, done, p2, rfl, hB, hp2⟩
  have h1 := hB.one
  have h6 := hB.six
  have Hsm := Lib.hid hB.small
  have hl7 := hB.len
  have Hx := Lib.hid hB.sizes
  have hz2 : w.heap.size + 3 ≤ w2.heap.size := by have := hB.grown.size; omega
  have hbA : Below w2.heap.size w2 ((w2.alloc (.cells #[.int .i64 ver, .slice SA ss.length sc] 25)).alloc (.cells #[.int .i64 st, .slice D done.length d] 28)) := ((Below.refl _ _).alloc (Nat.le_refl _) _).alloc (by simp) _
  have u1 := z1.keepG hB.grown (by omega)
  have u2 := z2.keep_ hB.grown (by omega)
  have N2 : UndoSt w A c zs ver SA sc ss st D d done w2.heap.size ((w2.alloc (.cells #[.int .i64 ver, .slice SA ss.length sc] 25)).alloc (.cells #[.int .i64 st, .slice D done.length d] 28)) p2 :=
    ⟨((hz1 ▸ hB.steps).alloc _).alloc _, ((hz1 ▸ hB.own).alloc _).alloc _, (hB.rd.alloc _).alloc _, (b1.trans (grown_below hB.grown (by omega) (by omega))).trans (hbA.mono (by omega)), (Below.heap_alloc _ _ _ (by simp)).trans (FlowBox.new w2 _ _), RBox.new_at _ _ _ (by simp),
      (hbA.block _ u1.lt).trans u1, u2.then_ hbA, hz2⟩
  clear hB z1 z2 u1 u2 b1 hr1 hbA
  go_wp2_with fail
  (with_reducible refine (sRunValid_any ver st SA D sc d ss done _ _ _ N2.steps.sts N2.own.strs (by omega)).mono ?_)
  rintro e w3 ⟨rfl, hb3⟩
  have N3 := N2.below_ hb3
  clear N2 hb3
  obtain ⟨f0, f1⟩ := N3.fbox.cells
  obtain ⟨r0, r1⟩ := N3.rbox.cells
  have K : ∃ bb : Bool, ∃ w4 p4, True := ⟨true, w3, p2, trivial⟩
  clear K
  have hfin : ∀ (st' : Int) (D' : Option Addr) (d' : Nat) (wx : World), TopMid w wx SA sc ss D' d' done → ∀ e, e = Ending.returned (.tuple #[.agg #[.int .i64 ver, .slice SA ss.length sc], .agg #[.int .i64 st', .slice D' done.length d']]) → DrawnBothTop w e wx := fun st' D' d' wx hm e he =>
    ⟨ver, SA, sc, ss, st', D', d', done, he, hm.fin h1 h6 Hsm.out hl7 Hx.out⟩
  have Hfin := Lib.hid hfin
  clear hfin
  by_cases hk : runOk ver ss st done = true ∧ st = 0
  · obtain ⟨hok, rfl⟩ := hk
    have hsub := Lib.hid (run_sub hok)
    rw [hok]
    clear hok
    go_wp2_with fail
    (with_reducible refine (pick_any w.heap.size (w.heap.size + 2) A c zs p2 _ _ N3.rd (by omega)).mono ?_)
    rintro e w4 ⟨v, rfl, hv0, hv1, hr4, hg4⟩
    have N4 := N3.after hr4 hg4
    clear N3 f0 f1 r0 r1 hr4 hg4
    obtain ⟨f0, f1⟩ := N4.fbox.cells
    obtain ⟨r0, r1⟩ := N4.rbox.cells
    obtain ⟨a0, a1⟩ := N4.fres.cells
    obtain ⟨c0, c1⟩ := N4.rres.cells
    have af := fun i => N4.fres.free i
    have cf := fun i => N4.rres.free i
    have hne0 : ∀ i j, (⟨w.heap.size, i, none⟩ : Addr) ≠ ⟨w2.heap.size, j, none⟩ := fun i j e => by injection e with e; omega
    have hne1 : ∀ i j, (⟨w.heap.size + 1, i, none⟩ : Addr) ≠ ⟨w2.heap.size, j, none⟩ := fun i j e => by injection e with e; omega
    have hne2 : ∀ i j, (⟨w.heap.size, i, none⟩ : Addr) ≠ ⟨w2.heap.size + 1, j, none⟩ := fun i j e => by injection e with e; omega
    have hne3 : ∀ i j, (⟨w.heap.size + 1, i, none⟩ : Addr) ≠ ⟨w2.heap.size + 1, j, none⟩ := fun i j e => by injection e with e; omega
    have Hne0 := Lib.hid hne0
    have Hne1 := Lib.hid hne1
    have Hne2 := Lib.hid hne2
    have Hne3 := Lib.hid hne3
    have S0 := And.intro (And.intro f0 f1) (And.intro r0 r1)
    clear hne0 hne1 hne2 hne3
    by_cases hv : 0 < v
    · have KB := Lib.hid (l3Back_any ver SA D sc d ss done w4.drew _ _ N4.steps.sts.drew N4.own.strs.drew hsub (by omega))
      go_wp2_with fail
      go_region_held3 (fun wx => (wx.cell? ⟨w2.heap.size, 0, none⟩ = some (.int .i64 ver) ∧ wx.cell? ⟨w2.heap.size, 1, none⟩ = some (.slice SA ss.length sc)) ∧ wx.cell? ⟨w2.heap.size + 1, 0, none⟩ = some (.int .i64 0) ∧ wx.cell? ⟨w2.heap.size + 1, 1, none⟩ = some (.slice D done.length d))
        (first
          | exact S5 | exact S0
          | exact And.intro (And.intro (cell_st (Hne0.out _ _) (cell_st (Hne0.out _ _) S5.1.1)) (cell_st (Hne0.out _ _) (cell_st (Hne0.out _ _) S5.1.2))) (And.intro (cell_st (Hne2.out _ _) (cell_st (Hne2.out _ _) S5.2.1)) (cell_st (Hne2.out _ _) (cell_st (Hne2.out _ _) S5.2.2)))
          | exact And.intro (And.intro (cell_st (Hne1.out _ _) (cell_st (Hne1.out _ _) S5.1.1)) (cell_st (Hne1.out _ _) (cell_st (Hne1.out _ _) S5.1.2))) (And.intro (cell_st (Hne3.out _ _) (cell_st (Hne3.out _ _) S5.2.1)) (cell_st (Hne3.out _ _) (cell_st (Hne3.out _ _) S5.2.2)))
          | exact And.intro (And.intro (cell_st (Hne1.out _ _) (cell_st (Hne1.out _ _) (cell_st (Hne0.out _ _) (cell_st (Hne0.out _ _) S5.1.1)))) (cell_st (Hne1.out _ _) (cell_st (Hne1.out _ _) (cell_st (Hne0.out _ _) (cell_st (Hne0.out _ _) S5.1.2))))) (And.intro (cell_st (Hne3.out _ _) (cell_st (Hne3.out _ _) (cell_st (Hne2.out _ _) (cell_st (Hne2.out _ _) S5.2.1)))) (cell_st (Hne3.out _ _) (cell_st (Hne3.out _ _) (cell_st (Hne2.out _ _) (cell_st (Hne2.out _ _) S5.2.2))))))
        ((go_at_call 41; (with_reducible refine KB.out.mono ?_); rintro e w5 ⟨D', d', rfl, ho5, hb5⟩; have N5 := N4.below_ (Below.undrew hb5); have S5 := And.intro N5.fbox.cells N5.rbox.cells; obtain ⟨g0, g1⟩ := N5.fres.cells; obtain ⟨k0, k1⟩ := N5.rres.cells; have gf := fun i => N5.fres.free i; have kf := fun i => N5.rres.free i))
      have hm : TopMid w w5 SA sc ss D' d' done := ⟨N5.steps.base_ (by omega) (by omega), ho5.base_ (by have := N4.low.size; have := N4.rbox.lt; show w.heap.size + 2 ≤ w4.heap.size; omega), N5.low⟩
      clear N4 N5 S0 S5 KB ho5 hb5
      all_goals
        go_wp2_with fail
        refine bodyPost_ret (v := .tuple #[.agg #[.int .i64 ver, .slice SA ss.length sc], .agg #[.int .i64 (backSt ss done), .slice D' done.length d']]) (by simp [results, Try.results13, go_sem, g0, g1, k0, k1]) rfl ?_
        refine Hfin.out _ _ _ _ ?_ _ rfl
        repeat (first | exact hm | refine TopMid.set0 ?_ _ _ | refine TopMid.set1 ?_ _ _)
    · have hv' : decide (0 < v) = false := decide_eq_false hv
      have hm : TopMid w w4 SA sc ss D d done := ⟨N4.steps.base_ (by omega) (by omega), N4.own.base_ (by omega), N4.low⟩
      clear N4
      go_wp2_with fail
      go_region_held3 (fun wx => (wx.cell? ⟨w2.heap.size, 0, none⟩ = some (.int .i64 ver) ∧ wx.cell? ⟨w2.heap.size, 1, none⟩ = some (.slice SA ss.length sc)) ∧ wx.cell? ⟨w2.heap.size + 1, 0, none⟩ = some (.int .i64 0) ∧ wx.cell? ⟨w2.heap.size + 1, 1, none⟩ = some (.slice D done.length d))
        (first
          | exact S0
          | exact And.intro (And.intro (cell_st (Hne0.out _ _) (cell_st (Hne0.out _ _) S0.1.1)) (cell_st (Hne0.out _ _) (cell_st (Hne0.out _ _) S0.1.2))) (And.intro (cell_st (Hne2.out _ _) (cell_st (Hne2.out _ _) S0.2.1)) (cell_st (Hne2.out _ _) (cell_st (Hne2.out _ _) S0.2.2)))
          | exact And.intro (And.intro (cell_st (Hne1.out _ _) (cell_st (Hne1.out _ _) S0.1.1)) (cell_st (Hne1.out _ _) (cell_st (Hne1.out _ _) S0.1.2))) (And.intro (cell_st (Hne3.out _ _) (cell_st (Hne3.out _ _) S0.2.1)) (cell_st (Hne3.out _ _) (cell_st (Hne3.out _ _) S0.2.2)))
          | exact And.intro (And.intro (cell_st (Hne1.out _ _) (cell_st (Hne1.out _ _) (cell_st (Hne0.out _ _) (cell_st (Hne0.out _ _) S0.1.1)))) (cell_st (Hne1.out _ _) (cell_st (Hne1.out _ _) (cell_st (Hne0.out _ _) (cell_st (Hne0.out _ _) S0.1.2))))) (And.intro (cell_st (Hne3.out _ _) (cell_st (Hne3.out _ _) (cell_st (Hne2.out _ _) (cell_st (Hne2.out _ _) S0.2.1)))) (cell_st (Hne3.out _ _) (cell_st (Hne3.out _ _) (cell_st (Hne2.out _ _) (cell_st (Hne2.out _ _) S0.2.2)))))
          | exact And.intro (And.intro (cell_st (Hne0.out _ _) (cell_st (Hne0.out _ _) (cell_st (Hne1.out _ _) (cell_st (Hne1.out _ _) S0.1.1)))) (cell_st (Hne0.out _ _) (cell_st (Hne0.out _ _) (cell_st (Hne1.out _ _) (cell_st (Hne1.out _ _) S0.1.2))))) (And.intro (cell_st (Hne2.out _ _) (cell_st (Hne2.out _ _) (cell_st (Hne3.out _ _) (cell_st (Hne3.out _ _) S0.2.1)))) (cell_st (Hne2.out _ _) (cell_st (Hne2.out _ _) (cell_st (Hne3.out _ _) (cell_st (Hne3.out _ _) S0.2.2))))))
        (fail)
      all_goals
        go_wp2_with fail
        refine bodyPost_ret (v := .tuple #[.agg #[.int .i64 ver, .slice SA ss.length sc], .agg #[.int .i64 0, .slice D done.length d]]) (by simp [results, Try.results13, go_sem, a0, a1, c0, c1]) rfl ?_
        refine Hfin.out _ _ _ _ ?_ _ rfl
        repeat (first | exact hm | refine TopMid.drew ?_ | refine TopMid.set0 ?_ _ _ | refine TopMid.set1 ?_ _ _)
  · obtain ⟨a0, a1⟩ := N3.fres.cells
    obtain ⟨c0, c1⟩ := N3.rres.cells
    have af := fun i => N3.fres.free i
    have cf := fun i => N3.rres.free i
    have hne0 : ∀ i j, (⟨w.heap.size, i, none⟩ : Addr) ≠ ⟨w2.heap.size, j, none⟩ := fun i j e => by injection e with e; omega
    have hne1 : ∀ i j, (⟨w.heap.size + 1, i, none⟩ : Addr) ≠ ⟨w2.heap.size, j, none⟩ := fun i j e => by injection e with e; omega
    have hne2 : ∀ i j, (⟨w.heap.size, i, none⟩ : Addr) ≠ ⟨w2.heap.size + 1, j, none⟩ := fun i j e => by injection e with e; omega
    have hne3 : ∀ i j, (⟨w.heap.size + 1, i, none⟩ : Addr) ≠ ⟨w2.heap.size + 1, j, none⟩ := fun i j e => by injection e with e; omega
    have Hne0 := Lib.hid hne0
    have Hne1 := Lib.hid hne1
    have Hne2 := Lib.hid hne2
    have Hne3 := Lib.hid hne3
    have S0 := And.intro (And.intro f0 f1) (And.intro r0 r1)
    have hm : TopMid w w3 SA sc ss D d done := ⟨N3.steps.base_ (by omega) (by omega), N3.own.base_ (by omega), N3.low⟩
    clear hne0 hne1 hne2 hne3 N3
    have hk2 : runOk ver ss st done = false ∨ (runOk ver ss st done = true ∧ (st == 0) = false) := by
      cases hr : runOk ver ss st done
      · exact .inl rfl
      · exact .inr ⟨rfl, beq_eq_false_iff_ne.2 (fun e => hk ⟨hr, e⟩)⟩
    clear hk
    rcases hk2 with hok | ⟨hok, e0⟩
    all_goals
      rw [hok]
      clear hok
      go_wp2_with fail
      go_region_held3 (fun wx => (wx.cell? ⟨w2.heap.size, 0, none⟩ = some (.int .i64 ver) ∧ wx.cell? ⟨w2.heap.size, 1, none⟩ = some (.slice SA ss.length sc)) ∧ wx.cell? ⟨w2.heap.size + 1, 0, none⟩ = some (.int .i64 st) ∧ wx.cell? ⟨w2.heap.size + 1, 1, none⟩ = some (.slice D done.length d))
        (first
          | exact S0
          | exact And.intro (And.intro (cell_st (Hne0.out _ _) (cell_st (Hne0.out _ _) S0.1.1)) (cell_st (Hne0.out _ _) (cell_st (Hne0.out _ _) S0.1.2))) (And.intro (cell_st (Hne2.out _ _) (cell_st (Hne2.out _ _) S0.2.1)) (cell_st (Hne2.out _ _) (cell_st (Hne2.out _ _) S0.2.2)))
          | exact And.intro (And.intro (cell_st (Hne1.out _ _) (cell_st (Hne1.out _ _) S0.1.1)) (cell_st (Hne1.out _ _) (cell_st (Hne1.out _ _) S0.1.2))) (And.intro (cell_st (Hne3.out _ _) (cell_st (Hne3.out _ _) S0.2.1)) (cell_st (Hne3.out _ _) (cell_st (Hne3.out _ _) S0.2.2)))
          | exact And.intro (And.intro (cell_st (Hne1.out _ _) (cell_st (Hne1.out _ _) (cell_st (Hne0.out _ _) (cell_st (Hne0.out _ _) S0.1.1)))) (cell_st (Hne1.out _ _) (cell_st (Hne1.out _ _) (cell_st (Hne0.out _ _) (cell_st (Hne0.out _ _) S0.1.2))))) (And.intro (cell_st (Hne3.out _ _) (cell_st (Hne3.out _ _) (cell_st (Hne2.out _ _) (cell_st (Hne2.out _ _) S0.2.1)))) (cell_st (Hne3.out _ _) (cell_st (Hne3.out _ _) (cell_st (Hne2.out _ _) (cell_st (Hne2.out _ _) S0.2.2)))))
          | exact And.intro (And.intro (cell_st (Hne0.out _ _) (cell_st (Hne0.out _ _) (cell_st (Hne1.out _ _) (cell_st (Hne1.out _ _) S0.1.1)))) (cell_st (Hne0.out _ _) (cell_st (Hne0.out _ _) (cell_st (Hne1.out _ _) (cell_st (Hne1.out _ _) S0.1.2))))) (And.intro (cell_st (Hne2.out _ _) (cell_st (Hne2.out _ _) (cell_st (Hne3.out _ _) (cell_st (Hne3.out _ _) S0.2.1)))) (cell_st (Hne2.out _ _) (cell_st (Hne2.out _ _) (cell_st (Hne3.out _ _) (cell_st (Hne3.out _ _) S0.2.2))))))
        (fail)
      all_goals
        go_wp2_with fail
        refine bodyPost_ret (v := .tuple #[.agg #[.int .i64 ver, .slice SA ss.length sc], .agg #[.int .i64 st, .slice D done.length d]]) (by simp [results, Try.results13, go_sem, a0, a1, c0, c1]) rfl ?_
        refine Hfin.out _ _ _ _ ?_ _ rfl
        repeat (first | exact hm | refine TopMid.drew ?_ | refine TopMid.set0 ?_ _ _ | refine TopMid.set1 ?_ _ _)
end Go.Proofs.Ytnekjmpmjadmhaa
