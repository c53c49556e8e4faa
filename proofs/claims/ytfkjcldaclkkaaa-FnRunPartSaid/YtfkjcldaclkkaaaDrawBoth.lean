/- Contracts of the draws of a flow and its run: l91Both, l91Next. Condition: the place is small. -/
import Derived.Test.YtfkjcldaclkkaaaDrawRun
namespace Go.Proofs.Ytfkjcldaclkkaaa
set_option linter.unusedVariables false
set_option maxRecDepth 100000
open Go.RowKit

/-- A flow and a run are drawn. -/
structure BothAt (w : World) (B g : Nat) (A : Option Addr) (c : Nat) (zs : List Int) (p : Nat) (w' : World) (ver : Int) (SA : Option Addr) (sc : Nat) (ss : List St) (st : Int) (D : Option Addr) (d : Nat) (done : List ByteArray) : Prop where
  steps : OwnSteps w' w.heap.size w.heap.size SA sc ss
  own : OwnStrs w' w.heap.size D d done
  one : 1 ≤ ss.length
  six : ss.length ≤ 6
  small : ∀ s ∈ ss, (1 ≤ s.name.size ∧ s.name.size ≤ 6) ∧ s.after.length ≤ 4 ∧ ∀ x ∈ s.after, x.size ≤ 6
  len : done.length ≤ 7
  sizes : ∀ x ∈ done, x.size ≤ 6
  place : p ≤ 500000
  rd : Rdr w' B g A c zs p
  grown : w.grownBy w' (some g)
def DrawnBoth (B g : Nat) (A : Option Addr) (c : Nat) (zs : List Int) (w : World) (e : Ending) (w' : World) : Prop :=
  ∃ (ver : Int) (SA : Option Addr) (sc : Nat) (ss : List St) (st : Int) (D : Option Addr) (d : Nat) (done : List ByteArray) (p : Nat), e = .returned (.tuple #[.agg #[.int .i64 ver, .slice SA ss.length sc], .agg #[.int .i64 st, .slice D done.length d]]) ∧ BothAt w B g A c zs p w' ver SA sc ss st D d done ∧ p ≤ 400000

/-- What is known while the results are stored. -/
structure BothMid (w : World) (B g : Nat) (A : Option Addr) (c : Nat) (zs : List Int) (p : Nat) (wr : World) (SA : Option Addr) (sc : Nat) (ss : List St) (D : Option Addr) (d : Nat) (done : List ByteArray) : Prop where
  steps : OwnSteps wr (w.heap.size + 2) (w.heap.size + 2) SA sc ss
  own : OwnStrs wr (w.heap.size + 2) D d done
  rd : Rdr wr B g A c zs p
  grown : w.grownBy wr (some g)
  gl : g < w.heap.size
section
variable {w wr : World} {B g : Nat} {A : Option Addr} {c : Nat} {zs : List Int} {p : Nat} {SA : Option Addr} {sc : Nat} {ss : List St} {D : Option Addr} {d : Nat} {done : List ByteArray}
theorem BothMid.set (m : BothMid w B g A c zs p wr SA sc ss D d done) {q : Addr} (u : Value) (h1 : w.heap.size ≤ q.block) (h2 : q.block < w.heap.size + 2) : BothMid w B g A c zs p (wr.setCell q u) SA sc ss D d done :=
  ⟨m.steps.set u h2 (fun q' e => by have := (m.steps.blocks q' e).1; omega), m.own.setLow h2 u, m.rd.far (by have := m.gl; omega) u, grown_set m.grown h1 u, m.gl⟩
theorem BothMid.set0 (m : BothMid w B g A c zs p wr SA sc ss D d done) (j : Nat) (u : Value) : BothMid w B g A c zs p (wr.setCell ⟨w.heap.size, j, none⟩ u) SA sc ss D d done :=
  m.set u (Nat.le_refl _) (by show w.heap.size < w.heap.size + 2; omega)
theorem BothMid.set1 (m : BothMid w B g A c zs p wr SA sc ss D d done) (j : Nat) (u : Value) : BothMid w B g A c zs p (wr.setCell ⟨w.heap.size + 1, j, none⟩ u) SA sc ss D d done :=
  m.set u (by show w.heap.size ≤ w.heap.size + 1; omega) (by show w.heap.size + 1 < w.heap.size + 2; omega)
theorem BothMid.fin (m : BothMid w B g A c zs p wr SA sc ss D d done) {ver st : Int} (h1 : 1 ≤ ss.length) (h6 : ss.length ≤ 6) (hsm : ∀ s ∈ ss, (1 ≤ s.name.size ∧ s.name.size ≤ 6) ∧ s.after.length ≤ 4 ∧ ∀ x ∈ s.after, x.size ≤ 6) (hl : done.length ≤ 7) (hx : ∀ x ∈ done, x.size ≤ 6) (hp : p ≤ 500000) :
    BothAt w B g A c zs p wr ver SA sc ss st D d done :=
  ⟨m.steps.base_ (by omega) (by omega), m.own.base_ (by omega), h1, h6, hsm, hl, hx, hp, m.rd, m.grown⟩
end

set_option maxHeartbeats 4000000 in
theorem l91Both_any (B g : Nat) (A : Option Addr) (c : Nat) (zs : List Int) (p : Nat) (w : World) (h : Rdr w B g A c zs p) (hp : p ≤ 300000) :
    Calls Try.prog 73 #[.pointer (some ⟨g, 0, none⟩)] w (DrawnBoth B g A c zs w) := by
  have hgl := h.lt
  have y1 : FlowBox ((w.alloc (.cells #[.int .i64 0, .slice none 0 0] 25)).alloc (.cells #[.int .i64 0, .slice none 0 0] 52)) w.heap.size (.int .i64 0) (.slice none 0 0) := (Below.heap_alloc _ _ _ (by simp)).trans (FlowBox.new w _ _)
  have y2 : RBox ((w.alloc (.cells #[.int .i64 0, .slice none 0 0] 25)).alloc (.cells #[.int .i64 0, .slice none 0 0] 52)) (w.heap.size + 1) (.int .i64 0) (.slice none 0 0) := RBox.new_at _ _ _ (by simp)
  have hg0 : w.grownBy ((w.alloc (.cells #[.int .i64 0, .slice none 0 0] 25)).alloc (.cells #[.int .i64 0, .slice none 0 0] 52)) (some g) := grown_alloc (World.grownBy_alloc _ _ _) _
  go_enter Try.func73, Try.ntmps73
  go_wp2_with fail
  (with_reducible refine (l91Flow_any B g A c zs p _ ((h.alloc _).alloc _) (by omega)).mono ?_)
  rintro e w2 ⟨ver, SA, sc, ss, p2, rfl, ho2, h1, h6, hsm, hp2, hr2, hg2⟩
  have hs0 : ((w.alloc (.cells #[.int .i64 0, .slice none 0 0] 25)).alloc (.cells #[.int .i64 0, .slice none 0 0] 52)).heap.size = w.heap.size + 2 := by simp
  have z1 := y1.keepG hg2 (by omega)
  have z2 := y2.keep_ hg2 (by omega)
  have hgw := grown_trans hg0 hg2
  rw [hs0] at ho2
  have hz2 : w.heap.size + 2 ≤ w2.heap.size := by have := hg2.size; omega
  clear hg2 hs0 y1 y2 hg0
  have KR := Lib.hid (l91Run_any B g A c zs p2 ver SA sc ss (w2.alloc (.cells #[.int .i64 ver, .slice SA ss.length sc] 25)).drew ((hr2.alloc _).keep fun _ _ => rfl) (by omega) (StsG.of_ ((ho2.alloc (.cells #[.int .i64 ver, .slice SA ss.length sc] 25)).drew) (by omega) (by omega)) h1 h6 (Lib.hid (fun s hs => (hsm s hs).1.2)))
  have bx : FlowBox (w2.alloc (.cells #[.int .i64 ver, .slice SA ss.length sc] 25)).drew w2.heap.size (.int .i64 ver) (.slice SA ss.length sc) := FlowBox.new w2 _ _
  have v1 : FlowBox (w2.alloc (.cells #[.int .i64 ver, .slice SA ss.length sc] 25)).drew w.heap.size (.int .i64 0) (.slice none 0 0) := (Below.heap_alloc _ _ _ z1.lt).trans z1
  have v2 : RBox (w2.alloc (.cells #[.int .i64 ver, .slice SA ss.length sc] 25)).drew (w.heap.size + 1) (.int .i64 0) (.slice none 0 0) := (z2.alloc _).drew
  have S0 := bx.cells
  have hne0 : ∀ i j, (⟨w.heap.size, i, none⟩ : Addr) ≠ ⟨w2.heap.size, j, none⟩ := fun i j e => by injection e with e; omega
  have hne1 : ∀ i j, (⟨w.heap.size + 1, i, none⟩ : Addr) ≠ ⟨w2.heap.size, j, none⟩ := fun i j e => by injection e with e; omega
  have Hne0 := Lib.hid hne0
  have Hne1 := Lib.hid hne1
  clear hne0 hne1
  go_wp2_with fail
  go_region_held3 (fun wx => wx.cell? ⟨w2.heap.size, 0, none⟩ = some (.int .i64 ver) ∧ wx.cell? ⟨w2.heap.size, 1, none⟩ = some (.slice SA ss.length sc))
    (first
      | exact S3 | exact S0
      | exact And.intro (cell_st (Hne0.out _ _) (cell_st (Hne0.out _ _) S3.1)) (cell_st (Hne0.out _ _) (cell_st (Hne0.out _ _) S3.2))
      | exact And.intro (cell_st (Hne1.out _ _) (cell_st (Hne1.out _ _) S3.1)) (cell_st (Hne1.out _ _) (cell_st (Hne1.out _ _) S3.2))
      | exact And.intro (cell_st (Hne1.out _ _) (cell_st (Hne1.out _ _) (cell_st (Hne0.out _ _) (cell_st (Hne0.out _ _) S3.1)))) (cell_st (Hne1.out _ _) (cell_st (Hne1.out _ _) (cell_st (Hne0.out _ _) (cell_st (Hne0.out _ _) S3.2))))
      | exact And.intro (cell_st (Hne0.out _ _) (cell_st (Hne0.out _ _) (cell_st (Hne1.out _ _) (cell_st (Hne1.out _ _) S3.1)))) (cell_st (Hne0.out _ _) (cell_st (Hne0.out _ _) (cell_st (Hne1.out _ _) (cell_st (Hne1.out _ _) S3.2))))
      | exact And.intro (cell_st (Hne0.out _ _) (cell_st (Hne0.out _ _) S0.1)) (cell_st (Hne0.out _ _) (cell_st (Hne0.out _ _) S0.2)))
    ((go_at_call 96; (with_reducible refine KR.out.mono ?_); rintro e w3 ⟨st, D, d, done, p3, rfl, ho3, hl3, hx3, hp3, hr3, hg3⟩; have u1 := v1.keepG hg3 (by omega); have u2 := v2.keep_ hg3 (by omega); have S3 := (bx.keepG hg3 (by omega)).cells; obtain ⟨a0, a1⟩ := u1.cells; obtain ⟨c0, c1⟩ := u2.cells; have af := fun i => u1.free i; have cf := fun i => u2.free i))
  have hm : BothMid w B g A c zs p3 w3 SA sc ss D d done :=
    ⟨((ho2.alloc _).drew).grown hg3 (by omega) (by omega), ho3.base_ (by show w.heap.size + 2 ≤ (w2.alloc _).heap.size; simp; omega), hr3, grown_trans (grown_trans hgw (World.grownBy_alloc _ _ _)) ⟨hg3.os, hg3.tape, hg3.output, hg3.size, hg3.block⟩, hgl⟩
  have hp4 : p3 ≤ 400000 := by omega
  have Hsm := Lib.hid hsm
  have Hx3 := Lib.hid hx3
  clear hsm hx3 ho2 ho3 hr3 hg3 hr2 hgw KR
  all_goals
    go_wp2_with fail
    refine bodyPost_ret (v := .tuple #[.agg #[.int .i64 ver, .slice SA ss.length sc], .agg #[.int .i64 st, .slice D done.length d]]) (by simp [results, Try.results73, go_sem, a0, a1, c0, c1]) rfl ?_
    refine ⟨ver, SA, sc, ss, st, D, d, done, p3, rfl, BothMid.fin ?_ h1 h6 Hsm.out hl3 Hx3.out (by omega), hp4⟩
    repeat (first | exact hm | refine BothMid.set0 ?_ _ _ | refine BothMid.set1 ?_ _ _)

section
variable {w wr w' : World} {B g : Nat} {A : Option Addr} {c : Nat} {zs : List Int} {p p' : Nat} {SA : Option Addr} {sc : Nat} {ss : List St} {D : Option Addr} {d : Nat} {done : List ByteArray}
theorem BothMid.after (m : BothMid w B g A c zs p wr SA sc ss D d done) (hr : Rdr w' B g A c zs p') (hg : wr.grownBy w' (some g)) : BothMid w B g A c zs p' w' SA sc ss D d done :=
  ⟨m.steps.grown hg (by have := m.gl; omega) (by have := m.gl; omega), own_move m.own fun k h1 h2 => hg.block k h2 (fun e => by injection e with e; have := m.gl; omega), hr, grown_trans m.grown hg, m.gl⟩
end
/-- What the draw of a step that can be done knows. -/
structure NextSt (w : World) (B g : Nat) (A : Option Addr) (c : Nat) (zs : List Int) (ver : Int) (SA : Option Addr) (sc : Nat) (ss : List St) (st : Int) (D : Option Addr) (d : Nat) (done : List ByteArray) (fb : Nat) (A9 : Option Addr) (c9 : Nat) (xs : List ByteArray) (wr : World) (p : Nat) : Prop where
  mid : BothMid w B g A c zs p wr SA sc ss D d done
  fbox : FlowBox wr fb (.int .i64 ver) (.slice SA ss.length sc)
  rbox : RBox wr (fb + 1) (.int .i64 st) (.slice D done.length d)
  fres : FlowBox wr w.heap.size (.int .i64 0) (.slice none 0 0)
  rres : RBox wr (w.heap.size + 1) (.int .i64 0) (.slice none 0 0)
  xs : OwnStrs wr (fb + 2) A9 c9 xs
  lt : w.heap.size + 2 ≤ fb
section
variable {w wr w' : World} {B g : Nat} {A : Option Addr} {c : Nat} {zs : List Int} {p p' : Nat} {ver st : Int} {SA : Option Addr} {sc : Nat} {ss : List St} {D : Option Addr} {d : Nat} {done : List ByteArray} {fb : Nat} {A9 : Option Addr} {c9 : Nat} {xs : List ByteArray}
theorem NextSt.after (m : NextSt w B g A c zs ver SA sc ss st D d done fb A9 c9 xs wr p) (hr : Rdr w' B g A c zs p') (hg : wr.grownBy w' (some g)) : NextSt w B g A c zs ver SA sc ss st D d done fb A9 c9 xs w' p' := by
  have h1 := m.mid.gl
  have h2 := m.lt
  exact ⟨m.mid.after hr hg, m.fbox.keepG hg (by omega), m.rbox.keep_ hg (by omega), m.fres.keepG hg (by omega), m.rres.keep_ hg (by omega), own_move m.xs fun k h1 h2 => hg.block k h2 (fun e => by injection e with e; omega), h2⟩
end
theorem readyOut_sub (ver : Int) (ss : List St) (done : List ByteArray) : ∀ x ∈ readyOut ver ss done, x ∈ names ss := by
  intro x hx
  unfold readyOut at hx
  split at hx
  · exact ready_sub hx
  · cases hx
/-- A flow, a run and a name are drawn. -/
def DrawnNext (B g : Nat) (A : Option Addr) (c : Nat) (zs : List Int) (w : World) (e : Ending) (w' : World) : Prop :=
  ∃ (ver : Int) (SA : Option Addr) (sc : Nat) (ss : List St) (st : Int) (D : Option Addr) (d : Nat) (done : List ByteArray) (nm : ByteArray) (p : Nat), e = .returned (.tuple #[.agg #[.int .i64 ver, .slice SA ss.length sc], .agg #[.int .i64 st, .slice D done.length d], .string nm]) ∧ nm.size ≤ 6 ∧ BothAt w B g A c zs p w' ver SA sc ss st D d done

set_option maxHeartbeats 8000000 in
theorem l91Next_any (B g : Nat) (A : Option Addr) (c : Nat) (zs : List Int) (p : Nat) (w : World) (h : Rdr w B g A c zs p) (hp : p ≤ 10000) :
    Calls Try.prog 82 #[.pointer (some ⟨g, 0, none⟩)] w (DrawnNext B g A c zs w) := by
  have hgl := h.lt
  have y1 : FlowBox ((w.alloc (.cells #[.int .i64 0, .slice none 0 0] 25)).alloc (.cells #[.int .i64 0, .slice none 0 0] 52)) w.heap.size (.int .i64 0) (.slice none 0 0) := (Below.heap_alloc _ _ _ (by simp)).trans (FlowBox.new w _ _)
  have y2 : RBox ((w.alloc (.cells #[.int .i64 0, .slice none 0 0] 25)).alloc (.cells #[.int .i64 0, .slice none 0 0] 52)) (w.heap.size + 1) (.int .i64 0) (.slice none 0 0) := RBox.new_at _ _ _ (by simp)
  have hg0 : w.grownBy ((w.alloc (.cells #[.int .i64 0, .slice none 0 0] 25)).alloc (.cells #[.int .i64 0, .slice none 0 0] 52)) (some g) := grown_alloc (World.grownBy_alloc _ _ _) _
  have hs0 : ((w.alloc (.cells #[.int .i64 0, .slice none 0 0] 25)).alloc (.cells #[.int .i64 0, .slice none 0 0] 52)).heap.size = w.heap.size + 2 := by simp
  go_enter Try.func82, Try.ntmps82
  go_wp2_with fail
  (with_reducible refine (l91Both_any B g A c zs p _ ((h.alloc _).alloc _) (by omega)).mono ?_)
  rintro e w2 ⟨ver, SA, sc, ss, st, D, d, done, p2, rfl, hB, hp2⟩
  have hz2 : w.heap.size + 2 ≤ w2.heap.size := by have := hB.grown.size; omega
  have m0 : BothMid w B g A c zs p2 w2 SA sc ss D d done := ⟨hs0 ▸ hB.steps, hs0 ▸ hB.own, hB.rd, grown_trans hg0 hB.grown, hgl⟩
  have z1 := y1.keepG hB.grown (by omega)
  have z2 := y2.keep_ hB.grown (by omega)
  have h1 := hB.one
  have h6 := hB.six
  have Hsm := Lib.hid hB.small
  have hl7 := hB.len
  have Hx := Lib.hid hB.sizes
  clear hB y1 y2 hg0 hs0
  have hbA : Below w2.heap.size w2 ((w2.alloc (.cells #[.int .i64 ver, .slice SA ss.length sc] 25)).alloc (.cells #[.int .i64 st, .slice D done.length d] 52)) := ((Below.refl _ _).alloc (Nat.le_refl _) _).alloc (by simp) _
  have m1 := m0.after (m0.rd.below hbA m0.rd.lt) (below_grown hbA)
  have f1 : FlowBox ((w2.alloc (.cells #[.int .i64 ver, .slice SA ss.length sc] 25)).alloc (.cells #[.int .i64 st, .slice D done.length d] 52)) w2.heap.size (.int .i64 ver) (.slice SA ss.length sc) := (Below.heap_alloc _ _ _ (by simp)).trans (FlowBox.new w2 _ _)
  have r1 : RBox ((w2.alloc (.cells #[.int .i64 ver, .slice SA ss.length sc] 25)).alloc (.cells #[.int .i64 st, .slice D done.length d] 52)) (w2.heap.size + 1) (.int .i64 st) (.slice D done.length d) := RBox.new_at _ _ _ (by simp)
  have hsA : ((w2.alloc (.cells #[.int .i64 ver, .slice SA ss.length sc] 25)).alloc (.cells #[.int .i64 st, .slice D done.length d] 52)).heap.size = w2.heap.size + 2 := by simp
  go_wp2_with fail
  (with_reducible refine (sFlowReady_any ver SA D sc d ss done _ _ _ m1.steps.sts m1.own.strs (by omega)).mono ?_)
  rintro e w3 ⟨A9, c9, rfl, ho9, hb9⟩
  rw [hsA] at ho9
  have hxs := Lib.hid (fun (x : ByteArray) (hx : x ∈ readyOut ver ss done) => (show x.size ≤ 6 by obtain ⟨s, hs, rfl⟩ := List.mem_map.1 (readyOut_sub ver ss done x hx); exact (Hsm.out s hs).1.2))
  generalize readyOut ver ss done = xs at *
  have N3 : NextSt w B g A c zs ver SA sc ss st D d done w2.heap.size A9 c9 xs w3 p2 :=
    ⟨m1.after (m1.rd.below hb9 m1.rd.lt) (below_grown hb9), (hb9.block _ f1.lt).trans f1, r1.then_ hb9, (hb9.block _ (by have := z1.lt; omega)).trans ((hbA.block _ z1.lt).trans z1), (z2.then_ hbA).then_ hb9, ho9, hz2⟩
  clear m0 m1 f1 r1 z1 z2 hbA hb9 ho9 hsA
  have hxl := N3.xs.strs.len
  have hxc := N3.xs.strs.cap
  go_upto_region 3 with fail
  go_cut [24] (fun vb wx => ∃ (bb : Bool) (p4 : Nat), vb = .bool bb ∧ (bb = true → 0 < xs.length) ∧ p4 ≤ p2 + 1 ∧ NextSt w B g A c zs ver SA sc ss st D d done w2.heap.size A9 c9 xs wx p4)
  case first =>
    rcases Nat.eq_zero_or_pos xs.length with h0 | h0
    · obtain rfl : xs = [] := List.eq_nil_of_length_eq_zero h0
      have hd0 : decide ((0 : Int) < 0) = false := by simp
      clear h0
      go_wp2_with fail
      go_meet
      exact ⟨false, p2, rfl, by simp, by omega, N3⟩
    · have hx0 : (0 : Int) < xs.length := by omega
      go_wp2_with fail
      (with_reducible refine (pick_any B g A c zs p2 _ _ N3.mid.rd (by omega)).mono ?_)
      rintro e w4 ⟨v, rfl, hv0, hv1, hr4, hg4⟩
      have N4 := N3.after hr4 hg4
      by_cases hv : 0 < v
      · go_wp2_with fail
        go_meet
        exact ⟨true, p2 + 1, rfl, fun _ => h0, by omega, N4⟩
      · have hv' : decide (0 < v) = false := decide_eq_false hv
        go_wp2_with fail
        go_meet
        exact ⟨false, p2 + 1, rfl, by simp, by omega, N4⟩
  case rest =>
    obtain ⟨w4, rfl⟩ : ∃ w4 : World, w4 = wc := ⟨_, rfl⟩
    obtain ⟨bb, p4, rfl, hbb, hp4, N4⟩ := hcut
    clear N3
    have hz4 := N4.rbox.lt
    have hgl4 := N4.mid.gl
    have hne0 : ∀ i j, (⟨w.heap.size, i, none⟩ : Addr) ≠ ⟨w2.heap.size, j, none⟩ := fun i j e => by injection e with e; omega
    have hne1 : ∀ i j, (⟨w.heap.size + 1, i, none⟩ : Addr) ≠ ⟨w2.heap.size, j, none⟩ := fun i j e => by injection e with e; omega
    have hne2 : ∀ i j, (⟨w.heap.size, i, none⟩ : Addr) ≠ ⟨w2.heap.size + 1, j, none⟩ := fun i j e => by injection e with e; omega
    have hne3 : ∀ i j, (⟨w.heap.size + 1, i, none⟩ : Addr) ≠ ⟨w2.heap.size + 1, j, none⟩ := fun i j e => by injection e with e; omega
    have Hne0 := Lib.hid hne0
    have Hne1 := Lib.hid hne1
    have Hne2 := Lib.hid hne2
    have Hne3 := Lib.hid hne3
    have hw4 : Rdr w4.drew B g A c zs p4 := N4.mid.rd.keep fun _ _ => rfl
    have Nd : NextSt w B g A c zs ver SA sc ss st D d done w2.heap.size A9 c9 xs w4.drew p4 := N4.after hw4 (by have := World.grownBy.refl w4 (some g); exact ⟨this.os, this.tape, this.output, this.size, this.block⟩)
    have S0 := And.intro Nd.fbox.cells Nd.rbox.cells
    clear hne0 hne1 hne2 hne3
    cases bb
    · clear hbb
      have KA := Lib.hid (l91At_any B g A c zs p4 ver SA sc ss w4.drew hw4 (by omega) (StsG.of_ Nd.mid.steps (by omega) (by omega)) h1 h6 (Lib.hid (fun s hs => (Hsm.out s hs).1.2)))
      go_wp2_with fail
      go_region_held3 (fun wx => (wx.cell? ⟨w2.heap.size, 0, none⟩ = some (.int .i64 ver) ∧ wx.cell? ⟨w2.heap.size, 1, none⟩ = some (.slice SA ss.length sc)) ∧ wx.cell? ⟨w2.heap.size + 1, 0, none⟩ = some (.int .i64 st) ∧ wx.cell? ⟨w2.heap.size + 1, 1, none⟩ = some (.slice D done.length d))
        (first
          | exact S5 | exact S0
          | exact And.intro (And.intro (cell_st (Hne0.out _ _) (cell_st (Hne0.out _ _) S5.1.1)) (cell_st (Hne0.out _ _) (cell_st (Hne0.out _ _) S5.1.2))) (And.intro (cell_st (Hne2.out _ _) (cell_st (Hne2.out _ _) S5.2.1)) (cell_st (Hne2.out _ _) (cell_st (Hne2.out _ _) S5.2.2)))
          | exact And.intro (And.intro (cell_st (Hne1.out _ _) (cell_st (Hne1.out _ _) S5.1.1)) (cell_st (Hne1.out _ _) (cell_st (Hne1.out _ _) S5.1.2))) (And.intro (cell_st (Hne3.out _ _) (cell_st (Hne3.out _ _) S5.2.1)) (cell_st (Hne3.out _ _) (cell_st (Hne3.out _ _) S5.2.2)))
          | exact And.intro (And.intro (cell_st (Hne1.out _ _) (cell_st (Hne1.out _ _) (cell_st (Hne0.out _ _) (cell_st (Hne0.out _ _) S5.1.1)))) (cell_st (Hne1.out _ _) (cell_st (Hne1.out _ _) (cell_st (Hne0.out _ _) (cell_st (Hne0.out _ _) S5.1.2))))) (And.intro (cell_st (Hne3.out _ _) (cell_st (Hne3.out _ _) (cell_st (Hne2.out _ _) (cell_st (Hne2.out _ _) S5.2.1)))) (cell_st (Hne3.out _ _) (cell_st (Hne3.out _ _) (cell_st (Hne2.out _ _) (cell_st (Hne2.out _ _) S5.2.2))))))
        ((go_at_call 53; (with_reducible refine KA.out.mono ?_); rintro e w5 ⟨nm, p5, rfl, hnm, hp5, hr5, hg5⟩; have N5 := Nd.after hr5 hg5; have S5 := And.intro N5.fbox.cells N5.rbox.cells; obtain ⟨a0, a1⟩ := N5.fres.cells; obtain ⟨c0, c1⟩ := N5.rres.cells; have af := fun i => N5.fres.free i; have cf := fun i => N5.rres.free i))
      have hm := N5.mid
      have hp6 : p5 ≤ 500000 := by omega
      clear N4 Nd N5 KA hw4 S0 S5 hr5 hg5
      all_goals
        go_wp2_with fail
        refine bodyPost_ret (v := .tuple #[.agg #[.int .i64 ver, .slice SA ss.length sc], .agg #[.int .i64 st, .slice D done.length d], .string nm]) (by simp [results, Try.results82, go_sem, a0, a1, c0, c1]) rfl ?_
        refine ⟨ver, SA, sc, ss, st, D, d, done, nm, p5, rfl, hnm, BothMid.fin ?_ h1 h6 Hsm.out hl7 Hx.out hp6⟩
        repeat (first | exact hm | refine BothMid.set0 ?_ _ _ | refine BothMid.set1 ?_ _ _)
    · have hx0 := hbb rfl
      clear hbb
      obtain ⟨v2, hv20, hv21, hfix⟩ := pick_fix zs p4 xs.length
      obtain ⟨m, rfl⟩ := Int.eq_ofNat_of_zero_le hv20
      have hm0 : m < xs.length := by omega
      obtain ⟨X, hX⟩ : ∃ X, X = xs[m] := ⟨_, rfl⟩
      have hXs : X.size ≤ 6 := by rw [hX]; exact hxs.out _ (List.getElem_mem hm0)
      obtain ⟨ad9, rfl, had9, hc9⟩ := Nd.xs.strs.at_ hm0
      rw [← hX] at hc9
      have hadl := (own_lt Nd.xs).1
      have HX := Lib.hid hX
      have hi0 : (0 : Int) ≤ m := by omega
      have hi1 : (m : Int) < xs.length := by omega
      have hadb : (ad9.add m).block = ad9.block := block_of_add _ _
      have hna : ∀ b i, b < w2.heap.size + 2 → (⟨b, i, none⟩ : Addr) ≠ ad9.add m := fun b i hb e => by
        have h2 : b = (ad9.add m).block := congrArg Addr.block e
        omega
      have hna0 : ∀ i, (⟨w.heap.size, i, none⟩ : Addr) ≠ ad9.add m := fun i => hna _ _ (by omega)
      have hna1 : ∀ i, (⟨w.heap.size + 1, i, none⟩ : Addr) ≠ ad9.add m := fun i => hna _ _ (by omega)
      have Ha0 := Lib.hid hna0
      have Ha1 := Lib.hid hna1
      have S1 := And.intro hc9 S0
      have KP := Lib.hid (hfix.keep (W := w4.drew) hw4 (by omega) (S := fun wx => wx.cell? (ad9.add m) = some (.string X)) (fun w' hg => hg.cell hc9 (fun e => by injection e with e; omega)))
      clear hX hna hna0 hna1 hfix hv21 hv20 hadb
      go_wp2_with fail
      go_region_held3 (fun wx => wx.cell? (ad9.add m) = some (.string X) ∧ (wx.cell? ⟨w2.heap.size, 0, none⟩ = some (.int .i64 ver) ∧ wx.cell? ⟨w2.heap.size, 1, none⟩ = some (.slice SA ss.length sc)) ∧ wx.cell? ⟨w2.heap.size + 1, 0, none⟩ = some (.int .i64 st) ∧ wx.cell? ⟨w2.heap.size + 1, 1, none⟩ = some (.slice D done.length d))
        (first
          | exact S5 | exact S1
          | exact And.intro (cell_st (Ha0.out _) (cell_st (Ha0.out _) S5.1)) (And.intro (And.intro (cell_st (Hne0.out _ _) (cell_st (Hne0.out _ _) S5.2.1.1)) (cell_st (Hne0.out _ _) (cell_st (Hne0.out _ _) S5.2.1.2))) (And.intro (cell_st (Hne2.out _ _) (cell_st (Hne2.out _ _) S5.2.2.1)) (cell_st (Hne2.out _ _) (cell_st (Hne2.out _ _) S5.2.2.2))))
          | exact And.intro (cell_st (Ha1.out _) (cell_st (Ha1.out _) S5.1)) (And.intro (And.intro (cell_st (Hne1.out _ _) (cell_st (Hne1.out _ _) S5.2.1.1)) (cell_st (Hne1.out _ _) (cell_st (Hne1.out _ _) S5.2.1.2))) (And.intro (cell_st (Hne3.out _ _) (cell_st (Hne3.out _ _) S5.2.2.1)) (cell_st (Hne3.out _ _) (cell_st (Hne3.out _ _) S5.2.2.2))))
          | exact And.intro (cell_st (Ha1.out _) (cell_st (Ha1.out _) (cell_st (Ha0.out _) (cell_st (Ha0.out _) S5.1)))) (And.intro (And.intro (cell_st (Hne1.out _ _) (cell_st (Hne1.out _ _) (cell_st (Hne0.out _ _) (cell_st (Hne0.out _ _) S5.2.1.1)))) (cell_st (Hne1.out _ _) (cell_st (Hne1.out _ _) (cell_st (Hne0.out _ _) (cell_st (Hne0.out _ _) S5.2.1.2))))) (And.intro (cell_st (Hne3.out _ _) (cell_st (Hne3.out _ _) (cell_st (Hne2.out _ _) (cell_st (Hne2.out _ _) S5.2.2.1)))) (cell_st (Hne3.out _ _) (cell_st (Hne3.out _ _) (cell_st (Hne2.out _ _) (cell_st (Hne2.out _ _) S5.2.2.2)))))))
        ((go_at_call 64; (with_reducible refine KP.out.mono ?_); rintro e w5 ⟨rfl, hr5, hg5, hx5, _, _, _⟩; have N5 := Nd.after hr5 hg5; have S5 := And.intro hx5 (And.intro N5.fbox.cells N5.rbox.cells); obtain ⟨a0, a1⟩ := N5.fres.cells; obtain ⟨c0, c1⟩ := N5.rres.cells; have af := fun i => N5.fres.free i; have cf := fun i => N5.rres.free i))
      have hm := N5.mid
      have hp6 : p4 + 1 ≤ 500000 := by omega
      clear N4 Nd N5 KP hw4 S0 S1 S5 hr5 hg5 hx5
      all_goals
        go_wp2_with fail
        refine bodyPost_ret (v := .tuple #[.agg #[.int .i64 ver, .slice SA ss.length sc], .agg #[.int .i64 st, .slice D done.length d], .string X]) (by simp [results, Try.results82, go_sem, a0, a1, c0, c1]) rfl ?_
        refine ⟨ver, SA, sc, ss, st, D, d, done, X, p4 + 1, rfl, hXs, BothMid.fin ?_ h1 h6 Hsm.out hl7 Hx.out hp6⟩
        repeat (first | exact hm | refine BothMid.set0 ?_ _ _ | refine BothMid.set1 ?_ _ _)
end Go.Proofs.Ytfkjcldaclkkaaa
