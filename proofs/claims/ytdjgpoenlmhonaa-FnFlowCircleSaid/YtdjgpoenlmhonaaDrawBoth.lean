/- Contracts of the draws of a flow and its run: l91Both, l91Next. Condition: the place is small. -/
import Derived.Test.YtdjgpoenlmhonaaDrawRun
namespace Go.Proofs.Ytdjgpoenlmhonaa
set_option linter.unusedVariables false
set_option maxRecDepth 100000
open Go.RowKit

/-- A flow and a run are drawn. -/
structure BothAt (w : World) (B g : Nat) (A : Option Addr) (c : Nat) (zs : List Int) (p : Nat) (w' : World) (ver : Int) (SA : Option Addr) (sc : Nat) (ss : List St) (st : Int) (D : Option Addr) (d : Nat) (done : List ByteArray) : Prop where
  steps : OwnSteps w' w.heap.size w.heap.size SA sc ss
  own : OwnStrs w' w.heap.size D d done
  one : 1 ≤ ss.length
  six : ss.length ≤ 6
  small : ∀ s ∈ ss, (1 ≤ s.name.size ∧ s.name.size ≤ 6) ∧ s.after.length ≤ 4 ∧ ∀ x ∈ s.after, x.size ≤ 6
  len : done.length ≤ 7
  sizes : ∀ x ∈ done, x.size ≤ 6
  place : p ≤ 500000
  rd : Rdr w' B g A c zs p
  grown : w.grownBy w' (some g)
def DrawnBoth (B g : Nat) (A : Option Addr) (c : Nat) (zs : List Int) (w : World) (e : Ending) (w' : World) : Prop :=
  ∃ (ver : Int) (SA : Option Addr) (sc : Nat) (ss : List St) (st : Int) (D : Option Addr) (d : Nat) (done : List ByteArray) (p : Nat), e = .returned (.tuple #[.agg #[.int .i64 ver, .slice SA ss.length sc], .agg #[.int .i64 st, .slice D done.length d]]) ∧ BothAt w B g A c zs p w' ver SA sc ss st D d done ∧ p ≤ 400000

/-- What is known while the results are stored. -/
structure BothMid (w : World) (B g : Nat) (A : Option Addr) (c : Nat) (zs : List Int) (p : Nat) (wr : World) (SA : Option Addr) (sc : Nat) (ss : List St) (D : Option Addr) (d : Nat) (done : List ByteArray) : Prop where
  steps : OwnSteps wr (w.heap.size + 2) (w.heap.size + 2) SA sc ss
  own : OwnStrs wr (w.heap.size + 2) D d done
  rd : Rdr wr B g A c zs p
  grown : w.grownBy wr (some g)
  gl : g < w.heap.size
section
variable {w wr : World} {B g : Nat} {A : Option Addr} {c : Nat} {zs : List Int} {p : Nat} {SA : Option Addr} {sc : Nat} {ss : List St} {D : Option Addr} {d : Nat} {done : List ByteArray}
theorem BothMid.set (m : BothMid w B g A c zs p wr SA sc ss D d done) {q : Addr} (u : Value) (h1 : w.heap.size ≤ q.block) (h2 : q.block < w.heap.size + 2) : BothMid w B g A c zs p (wr.setCell q u) SA sc ss D d done :=
  ⟨m.steps.set u h2 (fun q' e => by have := (m.steps.blocks q' e).1; omega), m.own.setLow h2 u, m.rd.far (by have := m.gl; omega) u, grown_set m.grown h1 u, m.gl⟩
theorem BothMid.set0 (m : BothMid w B g A c zs p wr SA sc ss D d done) (j : Nat) (u : Value) : BothMid w B g A c zs p (wr.setCell ⟨w.heap.size, j, none⟩ u) SA sc ss D d done :=
  m.set u (Nat.le_refl _) (by show w.heap.size < w.heap.size + 2; omega)
theorem BothMid.set1 (m : BothMid w B g A c zs p wr SA sc ss D d done) (j : Nat) (u : Value) : BothMid w B g A c zs p (wr.setCell ⟨w.heap.size + 1, j, none⟩ u) SA sc ss D d done :=
  m.set u (by show w.heap.size ≤ w.heap.size + 1; omega) (by show w.heap.size + 1 < w.heap.size + 2; omega)
theorem BothMid.fin (m : BothMid w B g A c zs p wr SA sc ss D d done) {ver st : Int} (h1 : 1 ≤ ss.length) (h6 : ss.length ≤ 6) (hsm : ∀ s ∈ ss, (1 ≤ s.name.size ∧ s.name.size ≤ 6) ∧ s.after.length ≤ 4 ∧ ∀ x ∈ s.after, x.size ≤ 6) (hl : done.length ≤ 7) (hx : ∀ x ∈ done, x.size ≤ 6) (hp : p ≤ 500000) :
    BothAt w B g A c zs p wr ver SA sc ss st D d done :=
  ⟨m.steps.base_ (by omega) (by omega), m.own.base_ (by omega), h1, h6, hsm, hl, hx, hp, m.rd, m.grown⟩
end


section
variable {w wr w' : World} {B g : Nat} {A : Option Addr} {c : Nat} {zs : List Int} {p p' : Nat} {SA : Option Addr} {sc : Nat} {ss : List St} {D : Option Addr} {d : Nat} {done : List ByteArray}
theorem BothMid.after (m : BothMid w B g A c zs p wr SA sc ss D d done) (hr : Rdr w' B g A c zs p') (hg : wr.grownBy w' (some g)) : BothMid w B g A c zs p' w' SA sc ss D d done :=
  ⟨m.steps.grown hg (by have := m.gl; omega) (by have := m.gl; omega), own_move m.own fun k h1 h2 => hg.block k h2 (fun e => by injection e with e; have := m.gl; omega), hr, grown_trans m.grown hg, m.gl⟩
end
/-- What the draw of a step that can be done knows. -/
structure NextSt (w : World) (B g : Nat) (A : Option Addr) (c : Nat) (zs : List Int) (ver : Int) (SA : Option Addr) (sc : Nat) (ss : List St) (st : Int) (D : Option Addr) (d : Nat) (done : List ByteArray) (fb : Nat) (A9 : Option Addr) (c9 : Nat) (xs : List ByteArray) (wr : World) (p : Nat) : Prop where
  mid : BothMid w B g A c zs p wr SA sc ss D d done
  fbox : FlowBox wr fb (.int .i64 ver) (.slice SA ss.length sc)
  rbox : RBox wr (fb + 1) (.int .i64 st) (.slice D done.length d)
  fres : FlowBox wr w.heap.size (.int .i64 0) (.slice none 0 0)
  rres : RBox wr (w.heap.size + 1) (.int .i64 0) (.slice none 0 0)
  xs : OwnStrs wr (fb + 2) A9 c9 xs
  lt : w.heap.size + 2 ≤ fb
section
variable {w wr w' : World} {B g : Nat} {A : Option Addr} {c : Nat} {zs : List Int} {p p' : Nat} {ver st : Int} {SA : Option Addr} {sc : Nat} {ss : List St} {D : Option Addr} {d : Nat} {done : List ByteArray} {fb : Nat} {A9 : Option Addr} {c9 : Nat} {xs : List ByteArray}
theorem NextSt.after (m : NextSt w B g A c zs ver SA sc ss st D d done fb A9 c9 xs wr p) (hr : Rdr w' B g A c zs p') (hg : wr.grownBy w' (some g)) : NextSt w B g A c zs ver SA sc ss st D d done fb A9 c9 xs w' p' := by
  have h1 := m.mid.gl
  have h2 := m.lt
  exact ⟨m.mid.after hr hg, m.fbox.keepG hg (by omega), m.rbox.keep_ hg (by omega), m.fres.keepG hg (by omega), m.rres.keep_ hg (by omega), own_move m.xs fun k h1 h2 => hg.block k h2 (fun e => by injection e with e; omega), h2⟩
end
theorem readyOut_sub (ver : Int) (ss : List St) (done : List ByteArray) : ∀ x ∈ readyOut ver ss done, x ∈ names ss := by
  intro x hx
  unfold readyOut at hx
  split at hx
  · exact ready_sub hx
  · cases hx
/-- A flow, a run and a name are drawn. -/
def DrawnNext (B g : Nat) (A : Option Addr) (c : Nat) (zs : List Int) (w : World) (e : Ending) (w' : World) : Prop :=
  ∃ (ver : Int) (SA : Option Addr) (sc : Nat) (ss : List St) (st : Int) (D : Option Addr) (d : Nat) (done : List ByteArray) (nm : ByteArray) (p : Nat), e = .returned (.tuple #[.agg #[.int .i64 ver, .slice SA ss.length sc], .agg #[.int .i64 st, .slice D done.length d], .string nm]) ∧ nm.size ≤ 6 ∧ BothAt w B g A c zs p w' ver SA sc ss st D d done

end Go.Proofs.Ytdjgpoenlmhonaa
