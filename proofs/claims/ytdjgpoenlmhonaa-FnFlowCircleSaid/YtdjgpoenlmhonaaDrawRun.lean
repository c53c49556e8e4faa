/- Contract of the draw of a run: l91Run. Condition: the place is small. -/
import Derived.Test.YtdjgpoenlmhonaaDrawAt
import Derived.Test.YtdjgpoenlmhonaaSpecRunFns
import Derived.Test.YtdjgpoenlmhonaaRunLaws
import Derived.Deep.DeepCutAuto
namespace Go.Proofs.Ytdjgpoenlmhonaa
set_option linter.unusedVariables false
set_option maxRecDepth 100000
open Go.RowKit

theorem do_sub (ver st : Int) (ss : List St) (done : List ByteArray) (nm : ByteArray) : ∀ n ∈ doDone ver ss st done nm, n ∈ names ss := by
  intro n hn
  cases h : canB ver ss st done nm
  · rw [doDone_no h] at hn; cases hn
  · rw [doDone_yes h] at hn; exact can_sub h n hn
theorem do_bound (ver st : Int) (ss : List St) (done : List ByteArray) (nm : ByteArray) : (doDone ver ss st done nm).length ≤ ss.length := by
  cases h : canB ver ss st done nm
  · rw [doDone_no h]; simp
  · rw [doDone_yes h]; exact can_len h

/-- What the draw of a run knows between its statements: g the reader's block, rb the run's. -/
structure RunState (w : World) (B g : Nat) (A : Option Addr) (c : Nat) (zs : List Int) (ver : Int) (SA : Option Addr) (sc : Nat) (ss : List St) (rb : Nat) (wr : World) (p : Nat) (st : Int) (D : Option Addr) (d : Nat) (done : List ByteArray) : Prop where
  rd : Rdr wr B g A c zs p
  flow : FlowBox wr w.heap.size (.int .i64 ver) (.slice SA ss.length sc)
  res : RBox wr (w.heap.size + 1) (.int .i64 0) (.slice none 0 0)
  run : RBox wr rb (.int .i64 st) (.slice D done.length d)
  own : OwnStrs wr (w.heap.size + 2) D d done
  ne : some rb ≠ D.map (·.block)
  grown : w.grownBy wr (some g)
  gl : g < w.heap.size
  rl : w.heap.size + 1 < rb
section
variable {w wr w' : World} {B g : Nat} {A : Option Addr} {c : Nat} {zs : List Int} {ver : Int} {SA : Option Addr} {sc : Nat} {ss : List St} {rb p p' : Nat} {st : Int} {D : Option Addr} {d : Nat} {done : List ByteArray}
theorem RunState.after (s : RunState w B g A c zs ver SA sc ss rb wr p st D d done) (hr : Rdr w' B g A c zs p') (hg : wr.grownBy w' (some g)) : RunState w B g A c zs ver SA sc ss rb w' p' st D d done where
  rd := hr
  flow := s.flow.keepG hg (by have := s.gl; omega)
  res := s.res.keep_ hg (by have := s.gl; omega)
  run := s.run.keep_ hg (by have := s.gl; have := s.rl; omega)
  own := own_move s.own fun k h1 h2 => hg.block k h2 (fun e => by injection e with e; have := s.gl; omega)
  ne := s.ne
  grown := grown_trans s.grown hg
  gl := s.gl
  rl := s.rl
theorem RunState.below_ (s : RunState w B g A c zs ver SA sc ss rb wr p st D d done) (hb : Below wr.heap.size wr w') : RunState w B g A c zs ver SA sc ss rb w' p st D d done :=
  s.after (s.rd.below hb s.rd.lt) (below_grown hb)
theorem Rdr.far {w : World} {B g : Nat} {A : Option Addr} {c : Nat} {zs : List Int} {p : Nat} (h : Rdr w B g A c zs p) {q : Addr} (hq : g < q.block) (u : Value) : Rdr (w.setCell q u) B g A c zs p :=
  h.keep fun k hk => Below.heap_setCell _ _ _ _ (by omega)
theorem grown_set {w wr : World} {g : Option Nat} (h : w.grownBy wr g) {q : Addr} (hq : w.heap.size ≤ q.block) (u : Value) : w.grownBy (wr.setCell q u) g :=
  ⟨h.os, h.tape, h.output, by have := h.size; simpa [World.setCell] using this, fun k hk hne => (Below.heap_setCell _ _ _ _ (by omega)).trans (h.block k hk hne)⟩
theorem own_far {w : World} {base : Nat} {A : Option Addr} {c : Nat} {xs : List ByteArray} (h : OwnStrs w base A c xs) {q : Addr} (hne : some q.block ≠ A.map (·.block)) (u : Value) : OwnStrs (w.setCell q u) base A c xs :=
  ⟨row_move h.1 fun k e => Below.heap_setCell _ _ _ _ (fun e2 => hne (by rw [ownBlock_slice] at e; rw [← e2]; exact e.symm)), h.2⟩
/-- The run's box is filled anew. -/
theorem RunState.turn (s : RunState w B g A c zs ver SA sc ss rb wr p st D d done) {st' : Int} {D' : Option Addr} {d' : Nat} {done' : List ByteArray} (ho : OwnStrs wr (w.heap.size + 2) D' d' done') (hne : some rb ≠ D'.map (·.block)) :
    RunState w B g A c zs ver SA sc ss rb ((wr.setCell ⟨rb, 0, none⟩ (.int .i64 st')).setCell ⟨rb, 1, none⟩ (.slice D' done'.length d')) p st' D' d' done' := by
  have h1 := s.gl
  have h2 := s.rl
  refine ⟨(s.rd.far (q := ⟨rb, 0, none⟩) (by show g < rb; omega) _).far (q := ⟨rb, 1, none⟩) (by show g < rb; omega) _, ?_, ?_, ?_, ?_, hne, ?_, h1, h2⟩
  · exact (Below.heap_setCell _ _ _ _ (by show w.heap.size ≠ rb; omega)).trans ((Below.heap_setCell _ _ _ _ (by show w.heap.size ≠ rb; omega)).trans s.flow)
  · exact (s.res.far (by show w.heap.size + 1 ≠ rb; omega)).far (by show w.heap.size + 1 ≠ rb; omega)
  · exact (s.run.set0 _).set1 _
  · exact own_far (q := ⟨rb, 1, none⟩) (own_far (q := ⟨rb, 0, none⟩) ho hne _) hne _
  · exact grown_set (q := ⟨rb, 1, none⟩) (grown_set (q := ⟨rb, 0, none⟩) s.grown (by show w.heap.size ≤ rb; omega) _) (by show w.heap.size ≤ rb; omega) _
theorem RunState.turn0 (s : RunState w B g A c zs ver SA sc ss rb wr p st D d done) (st' : Int) : RunState w B g A c zs ver SA sc ss rb (wr.setCell ⟨rb, 0, none⟩ (.int .i64 st')) p st' D d done := by
  have h1 := s.gl
  have h2 := s.rl
  exact ⟨s.rd.far (q := ⟨rb, 0, none⟩) (by show g < rb; omega) _, (Below.heap_setCell _ _ _ _ (by show w.heap.size ≠ rb; omega)).trans s.flow, s.res.far (by show w.heap.size + 1 ≠ rb; omega), s.run.set0 _, own_far (q := ⟨rb, 0, none⟩) s.own s.ne _, s.ne,
    grown_set (q := ⟨rb, 0, none⟩) s.grown (by show w.heap.size ≤ rb; omega) _, h1, h2⟩
/-- A name more in the run's own list: what is known ahead of the store. -/
theorem RunState.appended (s : RunState w B g A c zs ver SA sc ss rb wr p st D d done) {o : Obj} {A3 : Option Addr} {c3 : Nat} {nm : ByteArray} (ha : Appended (wr.alloc o) w' (w.heap.size + 2) D A3 c3 done nm) :
    RBox w' rb (.int .i64 st) (.slice D done.length d) ∧ RBox w' (w.heap.size + 1) (.int .i64 0) (.slice none 0 0) ∧ RunState w B g A c zs ver SA sc ss rb (w'.setCell ⟨rb, 1, none⟩ (.slice A3 (done.length + 1) c3)) p st A3 c3 (done ++ [nm]) := by
  have h1 := s.gl
  have h2 := s.rl
  have hrl := s.run.lt
  have hlow : ∀ q, D = some q → w.heap.size + 2 ≤ q.block := fun q e => by subst e; exact (own_lt s.own).1
  have hkeep : ∀ k, k < wr.heap.size → some k ≠ D.map (·.block) → w'.heap[k]? = wr.heap[k]? := fun k hk hne =>
    (ha.grown.block k (by simp; omega) hne).trans (Below.heap_alloc _ _ _ hk)
  have hnl : ∀ k, k < w.heap.size + 2 → some k ≠ D.map (·.block) := fun k hk e => by
    cases D with
    | none => cases e
    | some q => injection e with e; have e2 : k = q.block := e; have := hlow q rfl; omega
  have hrun : RBox w' rb (.int .i64 st) (.slice D done.length d) := (hkeep rb hrl s.ne).trans s.run
  have hne3 : some rb ≠ A3.map (·.block) := by
    rcases ha.at_ with hat | hat
    · rw [hat]; exact s.ne
    · rw [hat]; intro e; injection e with e; simp at e; omega
  have hgw : w.grownBy w' (some g) := by
    have hs1 := s.grown.size
    have hs2 := ha.grown.size
    simp at hs2
    exact ⟨ha.grown.os.trans s.grown.os, ha.grown.tape.trans s.grown.tape, ha.grown.output.trans s.grown.output, by omega, fun k hk hne => (hkeep k (by omega) (hnl k (by omega))).trans (s.grown.block k hk hne)⟩
  have hset : ∀ k, k ≠ rb → (w'.setCell ⟨rb, 1, none⟩ (.slice A3 (done.length + 1) c3)).heap[k]? = w'.heap[k]? := fun k hk => Below.heap_setCell _ _ _ _ hk
  have hlen : (done ++ [nm]).length = done.length + 1 := by simp
  refine ⟨hrun, (hkeep _ s.res.lt (hnl _ (by omega))).trans s.res, ⟨?_, ?_, ?_, ?_, own_far (q := ⟨rb, 1, none⟩) ha.own hne3 _, hne3, grown_set (q := ⟨rb, 1, none⟩) hgw (by show w.heap.size ≤ rb; omega) _, h1, h2⟩⟩
  · exact (s.rd.keep fun k hk => hkeep k (by have := s.rd.lt; omega) (hnl k (by omega))).far (q := ⟨rb, 1, none⟩) (by show g < rb; omega) _
  · exact (hset _ (by omega)).trans ((hkeep _ s.flow.lt (hnl _ (by omega))).trans s.flow)
  · exact (hset _ (by omega)).trans ((hkeep _ s.res.lt (hnl _ (by omega))).trans s.res)
  · rw [hlen]; exact hrun.set1 _
/-- What is handed back. -/
theorem RunState.done_ (s : RunState w B g A c zs ver SA sc ss rb wr p st D d done) (u v : Value) :
    Hid (OwnStrs ((wr.setCell ⟨w.heap.size + 1, 0, none⟩ u).setCell ⟨w.heap.size + 1, 1, none⟩ v) w.heap.size D d done ∧ Rdr ((wr.setCell ⟨w.heap.size + 1, 0, none⟩ u).setCell ⟨w.heap.size + 1, 1, none⟩ v) B g A c zs p ∧ w.grownBy ((wr.setCell ⟨w.heap.size + 1, 0, none⟩ u).setCell ⟨w.heap.size + 1, 1, none⟩ v) (some g)) := by
  have h1 := s.gl
  have l1 : w.heap.size + 1 < w.heap.size + 2 := by omega
  exact ⟨((s.own.setLow (a := ⟨w.heap.size + 1, 0, none⟩) l1 u).setLow (a := ⟨w.heap.size + 1, 1, none⟩) l1 v).base_ (by omega),
    (s.rd.far (q := ⟨w.heap.size + 1, 0, none⟩) (by show g < w.heap.size + 1; omega) _).far (q := ⟨w.heap.size + 1, 1, none⟩) (by show g < w.heap.size + 1; omega) _,
    grown_set (q := ⟨w.heap.size + 1, 1, none⟩) (grown_set (q := ⟨w.heap.size + 1, 0, none⟩) s.grown (by show w.heap.size ≤ w.heap.size + 1; omega) _) (by show w.heap.size ≤ w.heap.size + 1; omega) _⟩
end
/-- A run is drawn. -/
def DrawnRun (B g : Nat) (A : Option Addr) (c : Nat) (zs : List Int) (p K : Nat) (w : World) (e : Ending) (w' : World) : Prop :=
  ∃ (st : Int) (D : Option Addr) (d : Nat) (done : List ByteArray) (p' : Nat), e = .returned (.agg #[.int .i64 st, .slice D done.length d]) ∧ OwnStrs w' w.heap.size D d done ∧ done.length ≤ 7 ∧ (∀ x ∈ done, x.size ≤ 6) ∧ p' ≤ p + K ∧ Rdr w' B g A c zs p' ∧ w.grownBy w' (some g)

/-- What is known behind the step that is done next. -/
def CutDo (wr : World) (B g : Nat) (A : Option Addr) (c : Nat) (zs : List Int) (p : Nat) (st : Int) (out : List ByteArray) (vb : Value) (wx : World) : Prop :=
  ∃ (b : Nat) (A' : Option Addr) (c' : Nat), vb = .pointer (some ⟨b, 0, none⟩) ∧ Cell2 wx b (.int .i64 st) (.slice A' out.length c') ∧ wr.heap.size ≤ b ∧ OwnStrs wx wr.heap.size A' c' out ∧ Rdr wx B g A c zs p ∧ wr.grownBy wx (some g)

theorem cutD_early {wr wK : World} {B g : Nat} {A : Option Addr} {c : Nat} {zs : List Int} {p : Nat} {st : Int} {out : List ByteArray} {base2 b c' : Nat} {A' : Option Addr} {x y : Value} (hg : wr.grownBy wK (some g)) (hr : Rdr wK B g A c zs p) (bx : RBox wK b x y) (hb : wr.heap.size ≤ b) (hgl : g < wr.heap.size) (ho : OwnStrs wK base2 A' c' out) (hlt : b < base2) :
    CutDo wr B g A c zs p st out (.pointer (some ⟨b, 0, none⟩)) ((wK.setCell ⟨b, 0, none⟩ (.int .i64 st)).setCell ⟨b, 1, none⟩ (.slice A' out.length c')) :=
  ⟨b, A', c', rfl, ((bx.set0 _).set1 _).cell2, hb, ((ho.setLow (a := ⟨b, 0, none⟩) hlt _).setLow (a := ⟨b, 1, none⟩) hlt _).base_ (by omega),
    (hr.far (q := ⟨b, 0, none⟩) (by show g < b; omega) _).far (q := ⟨b, 1, none⟩) (by show g < b; omega) _, grown_set (q := ⟨b, 1, none⟩) (grown_set (q := ⟨b, 0, none⟩) hg hb _) hb _⟩
theorem far_ne {a b i : Nat} {p : Addr} (h : p.block < a) (k : a ≤ b) : (⟨b, i, none⟩ : Addr) ≠ p := fun e => by
  have : b = p.block := congrArg Addr.block e
  omega

end Go.Proofs.Ytdjgpoenlmhonaa
