/- Contracts of the draws of a flow and its run: l91Both, l91Next. Condition: the place is small. -/
import Derived.Test.YtaelacpkagcffaaDrawRun
namespace Go.Proofs.Ytaelacpkagcffaa
set_option linter.unusedVariables false
set_option maxRecDepth 100000
open Go.RowKit

/-- A flow and a run are drawn. -/
structure BothAt (w : World) (B g : Nat) (A : Option Addr) (c : Nat) (zs : List Int) (p : Nat) (w' : World) (ver : Int) (SA : Option Addr) (sc : Nat) (ss : List St) (st : Int) (D : Option Addr) (d : Nat) (done : List ByteArray) : Prop where
  steps : OwnSteps w' w.heap.size w.heap.size SA sc ss
  own : OwnStrs w' w.heap.size D d done
  one : 1 ≤ ss.length
  six : ss.length ≤ 6
  small : ∀ s ∈ ss, (1 ≤ s.name.size ∧ s.name.size ≤ 6) ∧ s.after.length ≤ 4 ∧ ∀ x ∈ s.after, x.size ≤ 6
  len : done.length ≤ 7
  sizes : ∀ x ∈ done, x.size ≤ 6
  place : p ≤ 500000
  rd : Rdr w' B g A c zs p
  grown : w.grownBy w' (some g)
def DrawnBoth (B g : Nat) (A : Option Addr) (c : Nat) (zs : List Int) (w : World) (e : Ending) (w' : World) : Prop :=
  ∃ (ver : Int) (SA : Option Addr) (sc : Nat) (ss : List St) (st : Int) (D : Option Addr) (d : Nat) (done : List ByteArray) (p : Nat), e = .returned (.tuple #[.agg #[.int .i64 ver, .slice SA ss.length sc], .agg #[.int .i64 st, .slice D done.length d]]) ∧ BothAt w B g A c zs p w' ver SA sc ss st D d done ∧ p ≤ 400000

/-- What is known while the results are stored. -/
structure BothMid (w : World) (B g : Nat) (A : Option Addr) (c : Nat) (zs : List Int) (p : Nat) (wr : World) (SA : Option Addr) (sc : Nat) (ss : List St) (D : Option Addr) (d : Nat) (done : List ByteArray) : Prop where
  steps : OwnSteps wr (w.heap.size + 2) (w.heap.size + 2) SA sc ss
  own : OwnStrs wr (w.heap.size + 2) D d done
  rd : Rdr wr B g A c zs p
  grown : w.grownBy wr (some g)
  gl : g < w.heap.size
section
variable {w wr : World} {B g : Nat} {A : Option Addr} {c : Nat} {zs : List Int} {p : Nat} {SA : Option Addr} {sc : Nat} {ss : List St} {D : Option Addr} {d : Nat} {done : List ByteArray}
theorem BothMid.set (m : BothMid w B g A c zs p wr SA sc ss D d done) {q : Addr} (u : Value) (h1 : w.heap.size ≤ q.block) (h2 : q.block < w.heap.size + 2) : BothMid w B g A c zs p (wr.setCell q u) SA sc ss D d done :=
  ⟨m.steps.set u h2 (fun q' e => by have := (m.steps.blocks q' e).1; omega), m.own.setLow h2 u, m.rd.far (by have := m.gl; omega) u, grown_set m.grown h1 u, m.gl⟩
theorem BothMid.set0 (m : BothMid w B g A c zs p wr SA sc ss D d done) (j : Nat) (u : Value) : BothMid w B g A c zs p (wr.setCell ⟨w.heap.size, j, none⟩ u) SA sc ss D d done :=
  m.set u (Nat.le_refl _) (by show w.heap.size < w.heap.size + 2; omega)
theorem BothMid.set1 (m : BothMid w B g A c zs p wr SA sc ss D d done) (j : Nat) (u : Value) : BothMid w B g A c zs p (wr.setCell ⟨w.heap.size + 1, j, none⟩ u) SA sc ss D d done :=
  m.set u (by show w.heap.size ≤ w.heap.size + 1; omega) (by show w.heap.size + 1 < w.heap.size + 2; omega)
theorem BothMid.fin (m : BothMid w B g A c zs p wr SA sc ss D d done) {ver st : Int} (h1 : 1 ≤ ss.length) (h6 : ss.length ≤ 6) (hsm : ∀ s ∈ ss, (1 ≤ s.name.size ∧ s.name.size ≤ 6) ∧ s.after.length ≤ 4 ∧ ∀ x ∈ s.after, x.size ≤ 6) (hl : done.length ≤ 7) (hx : ∀ x ∈ done, x.size ≤ 6) (hp : p ≤ 500000) :
    BothAt w B g A c zs p wr ver SA sc ss st D d done :=
  ⟨m.steps.base_ (by omega) (by omega), m.own.base_ (by omega), h1, h6, hsm, hl, hx, hp, m.rd, m.grown⟩
end

set_option maxHeartbeats 4000000 in
theorem l91Both_any (B g : Nat) (A : Option Addr) (c : Nat) (zs : List Int) (p : Nat) (w : World) (h : Rdr w B g A c zs p) (hp : p ≤ 300000) :
    Calls Try.prog 65 #[.pointer (some ⟨g, 0, none⟩)] w (DrawnBoth B g A c zs w) := by
  have hgl := h.lt
  have y1 : FlowBox ((w.alloc (.cells #[.int .i64 0, .slice none 0 0] 38)).alloc (.cells #[.int .i64 0, .slice none 0 0] 33)) w.heap.size (.int .i64 0) (.slice none 0 0) := (Below.heap_alloc _ _ _ (by simp)).trans (FlowBox.new w _ _)
  have y2 : RBox ((w.alloc (.cells #[.int .i64 0, .slice none 0 0] 38)).alloc (.cells #[.int .i64 0, .slice none 0 0] 33)) (w.heap.size + 1) (.int .i64 0) (.slice none 0 0) := RBox.new_at _ _ _ (by simp)
  have hg0 : w.grownBy ((w.alloc (.cells #[.int .i64 0, .slice none 0 0] 38)).alloc (.cells #[.int .i64 0, .slice none 0 0] 33)) (some g) := grown_alloc (World.grownBy_alloc _ _ _) _
  go_enter Try.func65, Try.ntmps65
  go_wp2_with fail
  (with_reducible refine (l91Flow_any B g A c zs p _ ((h.alloc _).alloc _) (by omega)).mono ?_)
  rintro e w2 ⟨ver, SA, sc, ss, p2, rfl, ho2, h1, h6, hsm, hp2, hr2, hg2⟩
  have hs0 : ((w.alloc (.cells #[.int .i64 0, .slice none 0 0] 38)).alloc (.cells #[.int .i64 0, .slice none 0 0] 33)).heap.size = w.heap.size + 2 := by simp
  have z1 := y1.keepG hg2 (by omega)
  have z2 := y2.keep_ hg2 (by omega)
  have hgw := grown_trans hg0 hg2
  rw [hs0] at ho2
  have hz2 : w.heap.size + 2 ≤ w2.heap.size := by have := hg2.size; omega
  clear hg2 hs0 y1 y2 hg0
  have KR := Lib.hid (l91Run_any B g A c zs p2 ver SA sc ss (w2.alloc (.cells #[.int .i64 ver, .slice SA ss.length sc] 38)).drew ((hr2.alloc _).keep fun _ _ => rfl) (by omega) (StsG.of_ ((ho2.alloc (.cells #[.int .i64 ver, .slice SA ss.length sc] 38)).drew) (by omega) (by omega)) h1 h6 (Lib.hid (fun s hs => (hsm s hs).1.2)))
  have bx : FlowBox (w2.alloc (.cells #[.int .i64 ver, .slice SA ss.length sc] 38)).drew w2.heap.size (.int .i64 ver) (.slice SA ss.length sc) := FlowBox.new w2 _ _
  have v1 : FlowBox (w2.alloc (.cells #[.int .i64 ver, .slice SA ss.length sc] 38)).drew w.heap.size (.int .i64 0) (.slice none 0 0) := (Below.heap_alloc _ _ _ z1.lt).trans z1
  have v2 : RBox (w2.alloc (.cells #[.int .i64 ver, .slice SA ss.length sc] 38)).drew (w.heap.size + 1) (.int .i64 0) (.slice none 0 0) := (z2.alloc _).drew
  have S0 := bx.cells
  have hne0 : ∀ i j, (⟨w.heap.size, i, none⟩ : Addr) ≠ ⟨w2.heap.size, j, none⟩ := fun i j e => by injection e with e; omega
  have hne1 : ∀ i j, (⟨w.heap.size + 1, i, none⟩ : Addr) ≠ ⟨w2.heap.size, j, none⟩ := fun i j e => by injection e with e; omega
  have Hne0 := Lib.hid hne0
  have Hne1 := Lib.hid hne1
  clear hne0 hne1
  go_wp2_with fail
  go_region_held3 (fun wx => wx.cell? ⟨w2.heap.size, 0, none⟩ = some (.int .i64 ver) ∧ wx.cell? ⟨w2.heap.size, 1, none⟩ = some (.slice SA ss.length sc))
    (first
      | exact S3 | exact S0
      | exact And.intro (cell_st (Hne0.out _ _) (cell_st (Hne0.out _ _) S3.1)) (cell_st (Hne0.out _ _) (cell_st (Hne0.out _ _) S3.2))
      | exact And.intro (cell_st (Hne1.out _ _) (cell_st (Hne1.out _ _) S3.1)) (cell_st (Hne1.out _ _) (cell_st (Hne1.out _ _) S3.2))
      | exact And.intro (cell_st (Hne1.out _ _) (cell_st (Hne1.out _ _) (cell_st (Hne0.out _ _) (cell_st (Hne0.out _ _) S3.1)))) (cell_st (Hne1.out _ _) (cell_st (Hne1.out _ _) (cell_st (Hne0.out _ _) (cell_st (Hne0.out _ _) S3.2))))
      | exact And.intro (cell_st (Hne0.out _ _) (cell_st (Hne0.out _ _) (cell_st (Hne1.out _ _) (cell_st (Hne1.out _ _) S3.1)))) (cell_st (Hne0.out _ _) (cell_st (Hne0.out _ _) (cell_st (Hne1.out _ _) (cell_st (Hne1.out _ _) S3.2))))
      | exact And.intro (cell_st (Hne0.out _ _) (cell_st (Hne0.out _ _) S0.1)) (cell_st (Hne0.out _ _) (cell_st (Hne0.out _ _) S0.2)))
    ((go_at_call 89; (with_reducible refine KR.out.mono ?_); rintro e w3 ⟨st, D, d, done, p3, rfl, ho3, hl3, hx3, hp3, hr3, hg3⟩; have u1 := v1.keepG hg3 (by omega); have u2 := v2.keep_ hg3 (by omega); have S3 := (bx.keepG hg3 (by omega)).cells; obtain ⟨a0, a1⟩ := u1.cells; obtain ⟨c0, c1⟩ := u2.cells; have af := fun i => u1.free i; have cf := fun i => u2.free i))
  have hm : BothMid w B g A c zs p3 w3 SA sc ss D d done :=
    ⟨((ho2.alloc _).drew).grown hg3 (by omega) (by omega), ho3.base_ (by show w.heap.size + 2 ≤ (w2.alloc _).heap.size; simp; omega), hr3, grown_trans (grown_trans hgw (World.grownBy_alloc _ _ _)) ⟨hg3.os, hg3.tape, hg3.output, hg3.size, hg3.block⟩, hgl⟩
  have hp4 : p3 ≤ 400000 := by omega
  have Hsm := Lib.hid hsm
  have Hx3 := Lib.hid hx3
  clear hsm hx3 ho2 ho3 hr3 hg3 hr2 hgw KR
  all_goals
    go_wp2_with fail
    refine bodyPost_ret (v := .tuple #[.agg #[.int .i64 ver, .slice SA ss.length sc], .agg #[.int .i64 st, .slice D done.length d]]) (by simp [results, Try.results65, go_sem, a0, a1, c0, c1]) rfl ?_
    refine ⟨ver, SA, sc, ss, st, D, d, done, p3, rfl, BothMid.fin ?_ h1 h6 Hsm.out hl3 Hx3.out (by omega), hp4⟩
    repeat (first | exact hm | refine BothMid.set0 ?_ _ _ | refine BothMid.set1 ?_ _ _)

section
variable {w wr w' : World} {B g : Nat} {A : Option Addr} {c : Nat} {zs : List Int} {p p' : Nat} {SA : Option Addr} {sc : Nat} {ss : List St} {D : Option Addr} {d : Nat} {done : List ByteArray}
theorem BothMid.after (m : BothMid w B g A c zs p wr SA sc ss D d done) (hr : Rdr w' B g A c zs p') (hg : wr.grownBy w' (some g)) : BothMid w B g A c zs p' w' SA sc ss D d done :=
  ⟨m.steps.grown hg (by have := m.gl; omega) (by have := m.gl; omega), own_move m.own fun k h1 h2 => hg.block k h2 (fun e => by injection e with e; have := m.gl; omega), hr, grown_trans m.grown hg, m.gl⟩
end
/-- What the draw of a step that can be done knows. -/
structure NextSt (w : World) (B g : Nat) (A : Option Addr) (c : Nat) (zs : List Int) (ver : Int) (SA : Option Addr) (sc : Nat) (ss : List St) (st : Int) (D : Option Addr) (d : Nat) (done : List ByteArray) (fb : Nat) (A9 : Option Addr) (c9 : Nat) (xs : List ByteArray) (wr : World) (p : Nat) : Prop where
  mid : BothMid w B g A c zs p wr SA sc ss D d done
  fbox : FlowBox wr fb (.int .i64 ver) (.slice SA ss.length sc)
  rbox : RBox wr (fb + 1) (.int .i64 st) (.slice D done.length d)
  fres : FlowBox wr w.heap.size (.int .i64 0) (.slice none 0 0)
  rres : RBox wr (w.heap.size + 1) (.int .i64 0) (.slice none 0 0)
  xs : OwnStrs wr (fb + 2) A9 c9 xs
  lt : w.heap.size + 2 ≤ fb
section
variable {w wr w' : World} {B g : Nat} {A : Option Addr} {c : Nat} {zs : List Int} {p p' : Nat} {ver st : Int} {SA : Option Addr} {sc : Nat} {ss : List St} {D : Option Addr} {d : Nat} {done : List ByteArray} {fb : Nat} {A9 : Option Addr} {c9 : Nat} {xs : List ByteArray}
theorem NextSt.after (m : NextSt w B g A c zs ver SA sc ss st D d done fb A9 c9 xs wr p) (hr : Rdr w' B g A c zs p') (hg : wr.grownBy w' (some g)) : NextSt w B g A c zs ver SA sc ss st D d done fb A9 c9 xs w' p' := by
  have h1 := m.mid.gl
  have h2 := m.lt
  exact ⟨m.mid.after hr hg, m.fbox.keepG hg (by omega), m.rbox.keep_ hg (by omega), m.fres.keepG hg (by omega), m.rres.keep_ hg (by omega), own_move m.xs fun k h1 h2 => hg.block k h2 (fun e => by injection e with e; omega), h2⟩
end
theorem readyOut_sub (ver : Int) (ss : List St) (done : List ByteArray) : ∀ x ∈ readyOut ver ss done, x ∈ names ss := by
  intro x hx
  unfold readyOut at hx
  split at hx
  · exact ready_sub hx
  · cases hx
/-- A flow, a run and a name are drawn. -/
def DrawnNext (B g : Nat) (A : Option Addr) (c : Nat) (zs : List Int) (w : World) (e : Ending) (w' : World) : Prop :=
  ∃ (ver : Int) (SA : Option Addr) (sc : Nat) (ss : List St) (st : Int) (D : Option Addr) (d : Nat) (done : List ByteArray) (nm : ByteArray) (p : Nat), e = .returned (.tuple #[.agg #[.int .i64 ver, .slice SA ss.length sc], .agg #[.int .i64 st, .slice D done.length d], .string nm]) ∧ nm.size ≤ 6 ∧ BothAt w B g A c zs p w' ver SA sc ss st D d done

end Go.Proofs.Ytaelacpkagcffaa
