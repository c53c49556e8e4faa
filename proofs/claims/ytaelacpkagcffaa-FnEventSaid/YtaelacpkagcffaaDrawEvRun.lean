/- Contract of the draw of a flow, its run and an event from a code: DrawEventRun. No condition. -/
import Derived.Test.YtaelacpkagcffaaDrawEvent
namespace Go.Proofs.Ytaelacpkagcffaa
set_option linter.unusedVariables false
set_option maxRecDepth 100000
open Go.RowKit

/-- A flow, its run and an event, drawn from a code. -/
def DrawnEvTop (w : World) (e : Ending) (w' : World) : Prop :=
  ∃ (ver : Int) (SA : Option Addr) (sc : Nat) (ss : List St) (st : Int) (D : Option Addr) (d : Nat) (done : List ByteArray) (kd : Int) (nm : ByteArray), e = .returned (.tuple #[.agg #[.int .i64 ver, .slice SA ss.length sc], .agg #[.int .i64 st, .slice D done.length d], .agg #[.int .i64 kd, .string nm]]) ∧ nm.size ≤ 6 ∧ BothTop w w' SA sc ss D d done ∧ Below w.heap.size w w'
/-- What is known while the results are stored. -/
structure TopMid3 (w wr : World) (SA : Option Addr) (sc : Nat) (ss : List St) (D : Option Addr) (d : Nat) (done : List ByteArray) : Prop where
  steps : OwnSteps wr (w.heap.size + 3) (w.heap.size + 3) SA sc ss
  own : OwnStrs wr (w.heap.size + 3) D d done
  low : Below w.heap.size w wr
section
variable {w wr : World} {SA : Option Addr} {sc : Nat} {ss : List St} {D : Option Addr} {d : Nat} {done : List ByteArray}
theorem TopMid3.set (m : TopMid3 w wr SA sc ss D d done) {q : Addr} (u : Value) (h1 : w.heap.size ≤ q.block) (h2 : q.block < w.heap.size + 3) : TopMid3 w (wr.setCell q u) SA sc ss D d done :=
  ⟨m.steps.set u h2 (fun q' e => by have := (m.steps.blocks q' e).1; omega), m.own.setLow h2 u, m.low.setCell h1 _⟩
theorem TopMid3.set0 (m : TopMid3 w wr SA sc ss D d done) (j : Nat) (u : Value) : TopMid3 w (wr.setCell ⟨w.heap.size, j, none⟩ u) SA sc ss D d done := m.set u (Nat.le_refl _) (by show w.heap.size < w.heap.size + 3; omega)
theorem TopMid3.set1 (m : TopMid3 w wr SA sc ss D d done) (j : Nat) (u : Value) : TopMid3 w (wr.setCell ⟨w.heap.size + 1, j, none⟩ u) SA sc ss D d done := m.set u (by show w.heap.size ≤ w.heap.size + 1; omega) (by show w.heap.size + 1 < w.heap.size + 3; omega)
theorem TopMid3.set2 (m : TopMid3 w wr SA sc ss D d done) (j : Nat) (u : Value) : TopMid3 w (wr.setCell ⟨w.heap.size + 2, j, none⟩ u) SA sc ss D d done := m.set u (by show w.heap.size ≤ w.heap.size + 2; omega) (by show w.heap.size + 2 < w.heap.size + 3; omega)
theorem TopMid3.fin (m : TopMid3 w wr SA sc ss D d done) (h1 : 1 ≤ ss.length) (h6 : ss.length ≤ 6) (hsm : ∀ s ∈ ss, (1 ≤ s.name.size ∧ s.name.size ≤ 6) ∧ s.after.length ≤ 4 ∧ ∀ x ∈ s.after, x.size ≤ 6) (hl : done.length ≤ 7) (hx : ∀ x ∈ done, x.size ≤ 6) : BothTop w wr SA sc ss D d done ∧ Below w.heap.size w wr :=
  ⟨⟨m.steps.sts, m.own.strs, h1, h6, hsm, hl, hx⟩, m.low⟩
end

set_option maxHeartbeats 8000000 in
theorem drawEventRun_any (A : Option Addr) (c : Nat) (zs : List Int) (w : World) (h : Byts w w.heap.size A c zs) :
    Calls Try.prog 38 #[.slice A zs.length c] w (DrawnEvTop w) := by
  have y1 : FlowBox (((w.alloc (.cells #[.int .i64 0, .slice none 0 0] 38)).alloc (.cells #[.int .i64 0, .slice none 0 0] 33)).alloc (.cells #[.int .i64 0, .string ⟨#[]⟩] 41)) w.heap.size (.int .i64 0) (.slice none 0 0) := (Below.heap_alloc _ _ _ (by simp; omega)).trans ((Below.heap_alloc _ _ _ (by simp)).trans (FlowBox.new w _ _))
  have y2 : RBox (((w.alloc (.cells #[.int .i64 0, .slice none 0 0] 38)).alloc (.cells #[.int .i64 0, .slice none 0 0] 33)).alloc (.cells #[.int .i64 0, .string ⟨#[]⟩] 41)) (w.heap.size + 1) (.int .i64 0) (.slice none 0 0) := (RBox.new_at _ _ _ (by simp)).alloc _
  have y3 : EBox (((w.alloc (.cells #[.int .i64 0, .slice none 0 0] 38)).alloc (.cells #[.int .i64 0, .slice none 0 0] 33)).alloc (.cells #[.int .i64 0, .string ⟨#[]⟩] 41)) (w.heap.size + 2) (.int .i64 0) (.string ⟨#[]⟩) := EBox.new_at _ _ _ (by simp)
  have b0 : Below w.heap.size w (((w.alloc (.cells #[.int .i64 0, .slice none 0 0] 38)).alloc (.cells #[.int .i64 0, .slice none 0 0] 33)).alloc (.cells #[.int .i64 0, .string ⟨#[]⟩] 41)) := (((Below.refl _ _).alloc (Nat.le_refl _) _).alloc (by simp) _).alloc (by simp; omega) _
  have hs0 : (((w.alloc (.cells #[.int .i64 0, .slice none 0 0] 38)).alloc (.cells #[.int .i64 0, .slice none 0 0] 33)).alloc (.cells #[.int .i64 0, .string ⟨#[]⟩] 41)).heap.size = w.heap.size + 3 := by simp
  go_enter Try.func38, Try.ntmps38
  go_wp2_with fail
  (with_reducible refine (open_any w.heap.size A c zs _ (((h.alloc (Nat.le_refl _) _).alloc (by simp) _).alloc (by simp; omega) _) (by simp; omega)).mono ?_)
  rintro e w1 ⟨zs, rfl, hr1, hb1, hz1⟩
  have z1 : FlowBox w1 w.heap.size (.int .i64 0) (.slice none 0 0) := (hb1.block _ y1.lt).trans y1
  have z2 := y2.then_ hb1
  have z3 := y3.then_ hb1
  have b1 := bthen b0 hb1
  rw [hs0] at hr1 hz1
  have hgl := hr1.lt
  clear y1 y2 y3 hb1 b0 hs0
  go_wp2_with fail
  (with_reducible refine (l91Both_any w.heap.size (w.heap.size + 3) A c zs 0 w1 hr1 (by omega)).mono ?_)
  rintro e w2 ⟨ver, SA, sc, ss, st, D, d, done, p2, rfl, hB, hp2⟩
  have u1 := z1.keepG hB.grown (by omega)
  have u2 := z2.keep_ hB.grown (by omega)
  have u3 := z3.keep_ hB.grown (by omega)
  have bw2 : Below w.heap.size w w2 := b1.trans (grown_below hB.grown (by omega) (by omega))
  have hz2 := hB.grown.size
  have ost := hB.steps.base_ (lo' := w.heap.size + 4) (lo2' := w.heap.size + 4) (by omega) (by omega)
  have own := hB.own.base_ (base' := w.heap.size + 4) (by omega)
  have hr2 := hB.rd
  have h1 := hB.one
  have h6 := hB.six
  have Hsm := Lib.hid hB.small
  have hl7 := hB.len
  have Hx := Lib.hid hB.sizes
  clear hB z1 z2 z3 b1 hr1
  have hbA : Below w2.heap.size w2 ((w2.alloc (.cells #[.int .i64 ver, .slice SA ss.length sc] 38)).alloc (.cells #[.int .i64 st, .slice D done.length d] 33)).drew := (((Below.refl _ _).alloc (Nat.le_refl _) _).alloc (by simp) _).drew
  have bf : FlowBox ((w2.alloc (.cells #[.int .i64 ver, .slice SA ss.length sc] 38)).alloc (.cells #[.int .i64 st, .slice D done.length d] 33)).drew w2.heap.size (.int .i64 ver) (.slice SA ss.length sc) := (Below.heap_alloc _ _ _ (by simp)).trans (FlowBox.new w2 _ _)
  have br : RBox ((w2.alloc (.cells #[.int .i64 ver, .slice SA ss.length sc] 38)).alloc (.cells #[.int .i64 st, .slice D done.length d] 33)).drew (w2.heap.size + 1) (.int .i64 st) (.slice D done.length d) := (RBox.new_at _ _ _ (by simp)).drew
  have v1 : FlowBox ((w2.alloc (.cells #[.int .i64 ver, .slice SA ss.length sc] 38)).alloc (.cells #[.int .i64 st, .slice D done.length d] 33)).drew w.heap.size (.int .i64 0) (.slice none 0 0) := (hbA.block _ u1.lt).trans u1
  have v2 := u2.then_ hbA
  have v3 := u3.then_ hbA
  have os2 := ost.below hbA
  have ow2 := own.below hbA
  have bd := bthen bw2 hbA
  have hrd := hr2.below hbA hr2.lt
  have hbz := hbA.size
  have KE := Lib.hid (l91Event_any w.heap.size (w.heap.size + 3) A c zs p2 ver SA sc ss st D d done _ hrd (by omega) (StsG.of_ os2 (by omega) (by omega)) (StrsG.of_ ow2 (by omega)) h1 h6 (Lib.hid (fun s hs => (Hsm.out s hs).1.2)) Hx)
  have S0 := And.intro bf.cells br.cells
  have hf0 : ∀ i j, (⟨w.heap.size, i, none⟩ : Addr) ≠ ⟨w2.heap.size, j, none⟩ := fun i j e => by injection e with e; omega
  have hf1 : ∀ i j, (⟨w.heap.size + 1, i, none⟩ : Addr) ≠ ⟨w2.heap.size, j, none⟩ := fun i j e => by injection e with e; omega
  have hf2 : ∀ i j, (⟨w.heap.size + 2, i, none⟩ : Addr) ≠ ⟨w2.heap.size, j, none⟩ := fun i j e => by injection e with e; omega
  have hr0 : ∀ i j, (⟨w.heap.size, i, none⟩ : Addr) ≠ ⟨w2.heap.size + 1, j, none⟩ := fun i j e => by injection e with e; omega
  have hr1 : ∀ i j, (⟨w.heap.size + 1, i, none⟩ : Addr) ≠ ⟨w2.heap.size + 1, j, none⟩ := fun i j e => by injection e with e; omega
  have hr3 : ∀ i j, (⟨w.heap.size + 2, i, none⟩ : Addr) ≠ ⟨w2.heap.size + 1, j, none⟩ := fun i j e => by injection e with e; omega
  have Hf0 := Lib.hid hf0
  have Hf1 := Lib.hid hf1
  have Hf2 := Lib.hid hf2
  have Hr0 := Lib.hid hr0
  have Hr1 := Lib.hid hr1
  have Hr2 := Lib.hid hr3
  have HQ : Hid (∀ w3, (((w2.alloc (.cells #[.int .i64 ver, .slice SA ss.length sc] 38)).alloc (.cells #[.int .i64 st, .slice D done.length d] 33)).drew).grownBy w3 (some (w.heap.size + 3)) →
      ((w3.cell? ⟨w2.heap.size, 0, none⟩ = some (.int .i64 ver) ∧ w3.cell? ⟨w2.heap.size, 1, none⟩ = some (.slice SA ss.length sc)) ∧ w3.cell? ⟨w2.heap.size + 1, 0, none⟩ = some (.int .i64 st) ∧ w3.cell? ⟨w2.heap.size + 1, 1, none⟩ = some (.slice D done.length d)) ∧
      (w3.cell? ⟨w.heap.size, 0, none⟩ = some (.int .i64 0) ∧ w3.cell? ⟨w.heap.size, 1, none⟩ = some (.slice none 0 0)) ∧ (w3.cell? ⟨w.heap.size + 1, 0, none⟩ = some (.int .i64 0) ∧ w3.cell? ⟨w.heap.size + 1, 1, none⟩ = some (.slice none 0 0)) ∧ (w3.cell? ⟨w.heap.size + 2, 0, none⟩ = some (.int .i64 0) ∧ w3.cell? ⟨w.heap.size + 2, 1, none⟩ = some (.string ⟨#[]⟩)) ∧
      (∀ i, w3.frozen? ⟨w.heap.size, i, none⟩ = false) ∧ (∀ i, w3.frozen? ⟨w.heap.size + 1, i, none⟩ = false) ∧ (∀ i, w3.frozen? ⟨w.heap.size + 2, i, none⟩ = false) ∧ TopMid3 w w3 SA sc ss D d done) := Lib.hid (fun w3 hg3 =>
    have q1 := v1.keepG hg3 (by omega)
    have q2 := v2.keep_ hg3 (by omega)
    have q3 := v3.keep_ hg3 (by omega)
    ⟨And.intro (bf.keepG hg3 (by omega)).cells (br.keep_ hg3 (by omega)).cells, q1.cells, q2.cells, q3.cells, fun i => q1.free i, fun i => q2.free i, fun i => q3.free i,
      ⟨(os2.grown hg3 (by omega) (by omega)).base_ (by omega) (by omega), (own_move ow2 fun k h1 h2 => hg3.block k h2 (fun e => by injection e with e; omega)).base_ (by omega), bd.trans (grown_below hg3 (by omega) (by omega))⟩⟩)
  clear hf0 hf1 hf2 hr0 hr1 hr3 u1 u2 u3 ost own hr2 bw2 hrd hbA os2 ow2 bd bf br v1 v2 v3 hbz
  go_wp2_with fail
  clear hz1 hz2 hgl hp2 h
  go_region_held3 (fun wx => (wx.cell? ⟨w2.heap.size, 0, none⟩ = some (.int .i64 ver) ∧ wx.cell? ⟨w2.heap.size, 1, none⟩ = some (.slice SA ss.length sc)) ∧ wx.cell? ⟨w2.heap.size + 1, 0, none⟩ = some (.int .i64 st) ∧ wx.cell? ⟨w2.heap.size + 1, 1, none⟩ = some (.slice D done.length d))
    (with_reducible (first
      | exact S5 | exact S0
      | exact And.intro (And.intro (cell_st (Hf0.out _ _) (cell_st (Hf0.out _ _) S5.1.1)) (cell_st (Hf0.out _ _) (cell_st (Hf0.out _ _) S5.1.2))) (And.intro (cell_st (Hr0.out _ _) (cell_st (Hr0.out _ _) S5.2.1)) (cell_st (Hr0.out _ _) (cell_st (Hr0.out _ _) S5.2.2)))
      | exact And.intro (And.intro (cell_st (Hf1.out _ _) (cell_st (Hf1.out _ _) S5.1.1)) (cell_st (Hf1.out _ _) (cell_st (Hf1.out _ _) S5.1.2))) (And.intro (cell_st (Hr1.out _ _) (cell_st (Hr1.out _ _) S5.2.1)) (cell_st (Hr1.out _ _) (cell_st (Hr1.out _ _) S5.2.2)))
      | exact And.intro (And.intro (cell_st (Hf2.out _ _) (cell_st (Hf2.out _ _) S5.1.1)) (cell_st (Hf2.out _ _) (cell_st (Hf2.out _ _) S5.1.2))) (And.intro (cell_st (Hr2.out _ _) (cell_st (Hr2.out _ _) S5.2.1)) (cell_st (Hr2.out _ _) (cell_st (Hr2.out _ _) S5.2.2)))
      | exact And.intro (And.intro (cell_st (Hf1.out _ _) (cell_st (Hf1.out _ _) (cell_st (Hf0.out _ _) (cell_st (Hf0.out _ _) S5.1.1)))) (cell_st (Hf1.out _ _) (cell_st (Hf1.out _ _) (cell_st (Hf0.out _ _) (cell_st (Hf0.out _ _) S5.1.2))))) (And.intro (cell_st (Hr1.out _ _) (cell_st (Hr1.out _ _) (cell_st (Hr0.out _ _) (cell_st (Hr0.out _ _) S5.2.1)))) (cell_st (Hr1.out _ _) (cell_st (Hr1.out _ _) (cell_st (Hr0.out _ _) (cell_st (Hr0.out _ _) S5.2.2)))))
      | exact And.intro (And.intro (cell_st (Hf2.out _ _) (cell_st (Hf2.out _ _) (cell_st (Hf0.out _ _) (cell_st (Hf0.out _ _) S5.1.1)))) (cell_st (Hf2.out _ _) (cell_st (Hf2.out _ _) (cell_st (Hf0.out _ _) (cell_st (Hf0.out _ _) S5.1.2))))) (And.intro (cell_st (Hr2.out _ _) (cell_st (Hr2.out _ _) (cell_st (Hr0.out _ _) (cell_st (Hr0.out _ _) S5.2.1)))) (cell_st (Hr2.out _ _) (cell_st (Hr2.out _ _) (cell_st (Hr0.out _ _) (cell_st (Hr0.out _ _) S5.2.2)))))
      | exact And.intro (And.intro (cell_st (Hf0.out _ _) (cell_st (Hf0.out _ _) (cell_st (Hf1.out _ _) (cell_st (Hf1.out _ _) S5.1.1)))) (cell_st (Hf0.out _ _) (cell_st (Hf0.out _ _) (cell_st (Hf1.out _ _) (cell_st (Hf1.out _ _) S5.1.2))))) (And.intro (cell_st (Hr0.out _ _) (cell_st (Hr0.out _ _) (cell_st (Hr1.out _ _) (cell_st (Hr1.out _ _) S5.2.1)))) (cell_st (Hr0.out _ _) (cell_st (Hr0.out _ _) (cell_st (Hr1.out _ _) (cell_st (Hr1.out _ _) S5.2.2)))))
      | exact And.intro (And.intro (cell_st (Hf2.out _ _) (cell_st (Hf2.out _ _) (cell_st (Hf1.out _ _) (cell_st (Hf1.out _ _) S5.1.1)))) (cell_st (Hf2.out _ _) (cell_st (Hf2.out _ _) (cell_st (Hf1.out _ _) (cell_st (Hf1.out _ _) S5.1.2))))) (And.intro (cell_st (Hr2.out _ _) (cell_st (Hr2.out _ _) (cell_st (Hr1.out _ _) (cell_st (Hr1.out _ _) S5.2.1)))) (cell_st (Hr2.out _ _) (cell_st (Hr2.out _ _) (cell_st (Hr1.out _ _) (cell_st (Hr1.out _ _) S5.2.2)))))
      | exact And.intro (And.intro (cell_st (Hf0.out _ _) (cell_st (Hf0.out _ _) (cell_st (Hf2.out _ _) (cell_st (Hf2.out _ _) S5.1.1)))) (cell_st (Hf0.out _ _) (cell_st (Hf0.out _ _) (cell_st (Hf2.out _ _) (cell_st (Hf2.out _ _) S5.1.2))))) (And.intro (cell_st (Hr0.out _ _) (cell_st (Hr0.out _ _) (cell_st (Hr2.out _ _) (cell_st (Hr2.out _ _) S5.2.1)))) (cell_st (Hr0.out _ _) (cell_st (Hr0.out _ _) (cell_st (Hr2.out _ _) (cell_st (Hr2.out _ _) S5.2.2)))))
      | exact And.intro (And.intro (cell_st (Hf1.out _ _) (cell_st (Hf1.out _ _) (cell_st (Hf2.out _ _) (cell_st (Hf2.out _ _) S5.1.1)))) (cell_st (Hf1.out _ _) (cell_st (Hf1.out _ _) (cell_st (Hf2.out _ _) (cell_st (Hf2.out _ _) S5.1.2))))) (And.intro (cell_st (Hr1.out _ _) (cell_st (Hr1.out _ _) (cell_st (Hr2.out _ _) (cell_st (Hr2.out _ _) S5.2.1)))) (cell_st (Hr1.out _ _) (cell_st (Hr1.out _ _) (cell_st (Hr2.out _ _) (cell_st (Hr2.out _ _) S5.2.2)))))
      | exact And.intro (And.intro (cell_st (Hf2.out _ _) (cell_st (Hf2.out _ _) (cell_st (Hf1.out _ _) (cell_st (Hf1.out _ _) (cell_st (Hf0.out _ _) (cell_st (Hf0.out _ _) S5.1.1)))))) (cell_st (Hf2.out _ _) (cell_st (Hf2.out _ _) (cell_st (Hf1.out _ _) (cell_st (Hf1.out _ _) (cell_st (Hf0.out _ _) (cell_st (Hf0.out _ _) S5.1.2))))))) (And.intro (cell_st (Hr2.out _ _) (cell_st (Hr2.out _ _) (cell_st (Hr1.out _ _) (cell_st (Hr1.out _ _) (cell_st (Hr0.out _ _) (cell_st (Hr0.out _ _) S5.2.1)))))) (cell_st (Hr2.out _ _) (cell_st (Hr2.out _ _) (cell_st (Hr1.out _ _) (cell_st (Hr1.out _ _) (cell_st (Hr0.out _ _) (cell_st (Hr0.out _ _) S5.2.2)))))))
      | exact And.intro (And.intro (cell_st (Hf1.out _ _) (cell_st (Hf1.out _ _) (cell_st (Hf2.out _ _) (cell_st (Hf2.out _ _) (cell_st (Hf0.out _ _) (cell_st (Hf0.out _ _) S5.1.1)))))) (cell_st (Hf1.out _ _) (cell_st (Hf1.out _ _) (cell_st (Hf2.out _ _) (cell_st (Hf2.out _ _) (cell_st (Hf0.out _ _) (cell_st (Hf0.out _ _) S5.1.2))))))) (And.intro (cell_st (Hr1.out _ _) (cell_st (Hr1.out _ _) (cell_st (Hr2.out _ _) (cell_st (Hr2.out _ _) (cell_st (Hr0.out _ _) (cell_st (Hr0.out _ _) S5.2.1)))))) (cell_st (Hr1.out _ _) (cell_st (Hr1.out _ _) (cell_st (Hr2.out _ _) (cell_st (Hr2.out _ _) (cell_st (Hr0.out _ _) (cell_st (Hr0.out _ _) S5.2.2)))))))
      | exact And.intro (And.intro (cell_st (Hf2.out _ _) (cell_st (Hf2.out _ _) (cell_st (Hf0.out _ _) (cell_st (Hf0.out _ _) (cell_st (Hf1.out _ _) (cell_st (Hf1.out _ _) S5.1.1)))))) (cell_st (Hf2.out _ _) (cell_st (Hf2.out _ _) (cell_st (Hf0.out _ _) (cell_st (Hf0.out _ _) (cell_st (Hf1.out _ _) (cell_st (Hf1.out _ _) S5.1.2))))))) (And.intro (cell_st (Hr2.out _ _) (cell_st (Hr2.out _ _) (cell_st (Hr0.out _ _) (cell_st (Hr0.out _ _) (cell_st (Hr1.out _ _) (cell_st (Hr1.out _ _) S5.2.1)))))) (cell_st (Hr2.out _ _) (cell_st (Hr2.out _ _) (cell_st (Hr0.out _ _) (cell_st (Hr0.out _ _) (cell_st (Hr1.out _ _) (cell_st (Hr1.out _ _) S5.2.2)))))))
      | exact And.intro (And.intro (cell_st (Hf0.out _ _) (cell_st (Hf0.out _ _) (cell_st (Hf2.out _ _) (cell_st (Hf2.out _ _) (cell_st (Hf1.out _ _) (cell_st (Hf1.out _ _) S5.1.1)))))) (cell_st (Hf0.out _ _) (cell_st (Hf0.out _ _) (cell_st (Hf2.out _ _) (cell_st (Hf2.out _ _) (cell_st (Hf1.out _ _) (cell_st (Hf1.out _ _) S5.1.2))))))) (And.intro (cell_st (Hr0.out _ _) (cell_st (Hr0.out _ _) (cell_st (Hr2.out _ _) (cell_st (Hr2.out _ _) (cell_st (Hr1.out _ _) (cell_st (Hr1.out _ _) S5.2.1)))))) (cell_st (Hr0.out _ _) (cell_st (Hr0.out _ _) (cell_st (Hr2.out _ _) (cell_st (Hr2.out _ _) (cell_st (Hr1.out _ _) (cell_st (Hr1.out _ _) S5.2.2)))))))
      | exact And.intro (And.intro (cell_st (Hf1.out _ _) (cell_st (Hf1.out _ _) (cell_st (Hf0.out _ _) (cell_st (Hf0.out _ _) (cell_st (Hf2.out _ _) (cell_st (Hf2.out _ _) S5.1.1)))))) (cell_st (Hf1.out _ _) (cell_st (Hf1.out _ _) (cell_st (Hf0.out _ _) (cell_st (Hf0.out _ _) (cell_st (Hf2.out _ _) (cell_st (Hf2.out _ _) S5.1.2))))))) (And.intro (cell_st (Hr1.out _ _) (cell_st (Hr1.out _ _) (cell_st (Hr0.out _ _) (cell_st (Hr0.out _ _) (cell_st (Hr2.out _ _) (cell_st (Hr2.out _ _) S5.2.1)))))) (cell_st (Hr1.out _ _) (cell_st (Hr1.out _ _) (cell_st (Hr0.out _ _) (cell_st (Hr0.out _ _) (cell_st (Hr2.out _ _) (cell_st (Hr2.out _ _) S5.2.2)))))))
      | exact And.intro (And.intro (cell_st (Hf0.out _ _) (cell_st (Hf0.out _ _) (cell_st (Hf1.out _ _) (cell_st (Hf1.out _ _) (cell_st (Hf2.out _ _) (cell_st (Hf2.out _ _) S5.1.1)))))) (cell_st (Hf0.out _ _) (cell_st (Hf0.out _ _) (cell_st (Hf1.out _ _) (cell_st (Hf1.out _ _) (cell_st (Hf2.out _ _) (cell_st (Hf2.out _ _) S5.1.2))))))) (And.intro (cell_st (Hr0.out _ _) (cell_st (Hr0.out _ _) (cell_st (Hr1.out _ _) (cell_st (Hr1.out _ _) (cell_st (Hr2.out _ _) (cell_st (Hr2.out _ _) S5.2.1)))))) (cell_st (Hr0.out _ _) (cell_st (Hr0.out _ _) (cell_st (Hr1.out _ _) (cell_st (Hr1.out _ _) (cell_st (Hr2.out _ _) (cell_st (Hr2.out _ _) S5.2.2)))))))))
    ((go_at_call 72; (with_reducible refine KE.out.mono ?_); rintro e w3 ⟨kd, nm, p3, rfl, hnm, hp3, hr3, hg3⟩; obtain ⟨S5, ⟨a0, a1⟩, ⟨c0, c1⟩, ⟨d0, d1⟩, af, cf, df, hm0⟩ := HQ.out w3 hg3; have hm := Lib.hid hm0; have hnm := Lib.hid hnm; clear hp3 hr3 hg3 hm0))
  clear KE HQ Hf0 Hf1 Hf2 Hr0 Hr1 Hr2 S0
  all_goals
    go_wp2_with fail
    refine bodyPost_ret (v := .tuple #[.agg #[.int .i64 ver, .slice SA ss.length sc], .agg #[.int .i64 st, .slice D done.length d], .agg #[.int .i64 kd, .string nm]]) (by simp [results, Try.results38, go_sem, a0, a1, c0, c1, d0, d1]) rfl ?_
    refine ⟨ver, SA, sc, ss, st, D, d, done, kd, nm, rfl, hnm.out, TopMid3.fin ?_ h1 h6 Hsm.out hl7 Hx.out⟩
    repeat (first | exact hm.out | refine TopMid3.set0 ?_ _ _ | refine TopMid3.set1 ?_ _ _ | refine TopMid3.set2 ?_ _ _)
end Go.Proofs.Ytaelacpkagcffaa
