/- Contract of the draw of a run: l91Run. Condition: the place is small. -/
import Derived.Test.YtfkjcldaclkkaaaDrawAt
import Derived.Test.YtfkjcldaclkkaaaSpecRunFns
import Derived.Test.YtfkjcldaclkkaaaRunLaws
import Derived.Deep.DeepCutAuto
namespace Go.Proofs.Ytfkjcldaclkkaaa
set_option linter.unusedVariables false
set_option maxRecDepth 100000
open Go.RowKit

theorem do_sub (ver st : Int) (ss : List St) (done : List ByteArray) (nm : ByteArray) : ∀ n ∈ doDone ver ss st done nm, n ∈ names ss := by
  intro n hn
  cases h : canB ver ss st done nm
  · rw [doDone_no h] at hn; cases hn
  · rw [doDone_yes h] at hn; exact can_sub h n hn
theorem do_bound (ver st : Int) (ss : List St) (done : List ByteArray) (nm : ByteArray) : (doDone ver ss st done nm).length ≤ ss.length := by
  cases h : canB ver ss st done nm
  · rw [doDone_no h]; simp
  · rw [doDone_yes h]; exact can_len h

/-- What the draw of a run knows between its statements: g the reader's block, rb the run's. -/
structure RunState (w : World) (B g : Nat) (A : Option Addr) (c : Nat) (zs : List Int) (ver : Int) (SA : Option Addr) (sc : Nat) (ss : List St) (rb : Nat) (wr : World) (p : Nat) (st : Int) (D : Option Addr) (d : Nat) (done : List ByteArray) : Prop where
  rd : Rdr wr B g A c zs p
  flow : FlowBox wr w.heap.size (.int .i64 ver) (.slice SA ss.length sc)
  res : RBox wr (w.heap.size + 1) (.int .i64 0) (.slice none 0 0)
  run : RBox wr rb (.int .i64 st) (.slice D done.length d)
  own : OwnStrs wr (w.heap.size + 2) D d done
  ne : some rb ≠ D.map (·.block)
  grown : w.grownBy wr (some g)
  gl : g < w.heap.size
  rl : w.heap.size + 1 < rb
section
variable {w wr w' : World} {B g : Nat} {A : Option Addr} {c : Nat} {zs : List Int} {ver : Int} {SA : Option Addr} {sc : Nat} {ss : List St} {rb p p' : Nat} {st : Int} {D : Option Addr} {d : Nat} {done : List ByteArray}
theorem RunState.after (s : RunState w B g A c zs ver SA sc ss rb wr p st D d done) (hr : Rdr w' B g A c zs p') (hg : wr.grownBy w' (some g)) : RunState w B g A c zs ver SA sc ss rb w' p' st D d done where
  rd := hr
  flow := s.flow.keepG hg (by have := s.gl; omega)
  res := s.res.keep_ hg (by have := s.gl; omega)
  run := s.run.keep_ hg (by have := s.gl; have := s.rl; omega)
  own := own_move s.own fun k h1 h2 => hg.block k h2 (fun e => by injection e with e; have := s.gl; omega)
  ne := s.ne
  grown := grown_trans s.grown hg
  gl := s.gl
  rl := s.rl
theorem RunState.below_ (s : RunState w B g A c zs ver SA sc ss rb wr p st D d done) (hb : Below wr.heap.size wr w') : RunState w B g A c zs ver SA sc ss rb w' p st D d done :=
  s.after (s.rd.below hb s.rd.lt) (below_grown hb)
theorem Rdr.far {w : World} {B g : Nat} {A : Option Addr} {c : Nat} {zs : List Int} {p : Nat} (h : Rdr w B g A c zs p) {q : Addr} (hq : g < q.block) (u : Value) : Rdr (w.setCell q u) B g A c zs p :=
  h.keep fun k hk => Below.heap_setCell _ _ _ _ (by omega)
theorem grown_set {w wr : World} {g : Option Nat} (h : w.grownBy wr g) {q : Addr} (hq : w.heap.size ≤ q.block) (u : Value) : w.grownBy (wr.setCell q u) g :=
  ⟨h.os, h.tape, h.output, by have := h.size; simpa [World.setCell] using this, fun k hk hne => (Below.heap_setCell _ _ _ _ (by omega)).trans (h.block k hk hne)⟩
theorem own_far {w : World} {base : Nat} {A : Option Addr} {c : Nat} {xs : List ByteArray} (h : OwnStrs w base A c xs) {q : Addr} (hne : some q.block ≠ A.map (·.block)) (u : Value) : OwnStrs (w.setCell q u) base A c xs :=
  ⟨row_move h.1 fun k e => Below.heap_setCell _ _ _ _ (fun e2 => hne (by rw [ownBlock_slice] at e; rw [← e2]; exact e.symm)), h.2⟩
/-- The run's box is filled anew. -/
theorem RunState.turn (s : RunState w B g A c zs ver SA sc ss rb wr p st D d done) {st' : Int} {D' : Option Addr} {d' : Nat} {done' : List ByteArray} (ho : OwnStrs wr (w.heap.size + 2) D' d' done') (hne : some rb ≠ D'.map (·.block)) :
    RunState w B g A c zs ver SA sc ss rb ((wr.setCell ⟨rb, 0, none⟩ (.int .i64 st')).setCell ⟨rb, 1, none⟩ (.slice D' done'.length d')) p st' D' d' done' := by
  have h1 := s.gl
  have h2 := s.rl
  refine ⟨(s.rd.far (q := ⟨rb, 0, none⟩) (by show g < rb; omega) _).far (q := ⟨rb, 1, none⟩) (by show g < rb; omega) _, ?_, ?_, ?_, ?_, hne, ?_, h1, h2⟩
  · exact (Below.heap_setCell _ _ _ _ (by show w.heap.size ≠ rb; omega)).trans ((Below.heap_setCell _ _ _ _ (by show w.heap.size ≠ rb; omega)).trans s.flow)
  · exact (s.res.far (by show w.heap.size + 1 ≠ rb; omega)).far (by show w.heap.size + 1 ≠ rb; omega)
  · exact (s.run.set0 _).set1 _
  · exact own_far (q := ⟨rb, 1, none⟩) (own_far (q := ⟨rb, 0, none⟩) ho hne _) hne _
  · exact grown_set (q := ⟨rb, 1, none⟩) (grown_set (q := ⟨rb, 0, none⟩) s.grown (by show w.heap.size ≤ rb; omega) _) (by show w.heap.size ≤ rb; omega) _
theorem RunState.turn0 (s : RunState w B g A c zs ver SA sc ss rb wr p st D d done) (st' : Int) : RunState w B g A c zs ver SA sc ss rb (wr.setCell ⟨rb, 0, none⟩ (.int .i64 st')) p st' D d done := by
  have h1 := s.gl
  have h2 := s.rl
  exact ⟨s.rd.far (q := ⟨rb, 0, none⟩) (by show g < rb; omega) _, (Below.heap_setCell _ _ _ _ (by show w.heap.size ≠ rb; omega)).trans s.flow, s.res.far (by show w.heap.size + 1 ≠ rb; omega), s.run.set0 _, own_far (q := ⟨rb, 0, none⟩) s.own s.ne _, s.ne,
    grown_set (q := ⟨rb, 0, none⟩) s.grown (by show w.heap.size ≤ rb; omega) _, h1, h2⟩
/-- A name more in the run's own list: what is known ahead of the store. -/
theorem RunState.appended (s : RunState w B g A c zs ver SA sc ss rb wr p st D d done) {o : Obj} {A3 : Option Addr} {c3 : Nat} {nm : ByteArray} (ha : Appended (wr.alloc o) w' (w.heap.size + 2) D A3 c3 done nm) :
    RBox w' rb (.int .i64 st) (.slice D done.length d) ∧ RBox w' (w.heap.size + 1) (.int .i64 0) (.slice none 0 0) ∧ RunState w B g A c zs ver SA sc ss rb (w'.setCell ⟨rb, 1, none⟩ (.slice A3 (done.length + 1) c3)) p st A3 c3 (done ++ [nm]) := by
  have h1 := s.gl
  have h2 := s.rl
  have hrl := s.run.lt
  have hlow : ∀ q, D = some q → w.heap.size + 2 ≤ q.block := fun q e => by subst e; exact (own_lt s.own).1
  have hkeep : ∀ k, k < wr.heap.size → some k ≠ D.map (·.block) → w'.heap[k]? = wr.heap[k]? := fun k hk hne =>
    (ha.grown.block k (by simp; omega) hne).trans (Below.heap_alloc _ _ _ hk)
  have hnl : ∀ k, k < w.heap.size + 2 → some k ≠ D.map (·.block) := fun k hk e => by
    cases D with
    | none => cases e
    | some q => injection e with e; have e2 : k = q.block := e; have := hlow q rfl; omega
  have hrun : RBox w' rb (.int .i64 st) (.slice D done.length d) := (hkeep rb hrl s.ne).trans s.run
  have hne3 : some rb ≠ A3.map (·.block) := by
    rcases ha.at_ with hat | hat
    · rw [hat]; exact s.ne
    · rw [hat]; intro e; injection e with e; simp at e; omega
  have hgw : w.grownBy w' (some g) := by
    have hs1 := s.grown.size
    have hs2 := ha.grown.size
    simp at hs2
    exact ⟨ha.grown.os.trans s.grown.os, ha.grown.tape.trans s.grown.tape, ha.grown.output.trans s.grown.output, by omega, fun k hk hne => (hkeep k (by omega) (hnl k (by omega))).trans (s.grown.block k hk hne)⟩
  have hset : ∀ k, k ≠ rb → (w'.setCell ⟨rb, 1, none⟩ (.slice A3 (done.length + 1) c3)).heap[k]? = w'.heap[k]? := fun k hk => Below.heap_setCell _ _ _ _ hk
  have hlen : (done ++ [nm]).length = done.length + 1 := by simp
  refine ⟨hrun, (hkeep _ s.res.lt (hnl _ (by omega))).trans s.res, ⟨?_, ?_, ?_, ?_, own_far (q := ⟨rb, 1, none⟩) ha.own hne3 _, hne3, grown_set (q := ⟨rb, 1, none⟩) hgw (by show w.heap.size ≤ rb; omega) _, h1, h2⟩⟩
  · exact (s.rd.keep fun k hk => hkeep k (by have := s.rd.lt; omega) (hnl k (by omega))).far (q := ⟨rb, 1, none⟩) (by show g < rb; omega) _
  · exact (hset _ (by omega)).trans ((hkeep _ s.flow.lt (hnl _ (by omega))).trans s.flow)
  · exact (hset _ (by omega)).trans ((hkeep _ s.res.lt (hnl _ (by omega))).trans s.res)
  · rw [hlen]; exact hrun.set1 _
/-- What is handed back. -/
theorem RunState.done_ (s : RunState w B g A c zs ver SA sc ss rb wr p st D d done) (u v : Value) :
    Hid (OwnStrs ((wr.setCell ⟨w.heap.size + 1, 0, none⟩ u).setCell ⟨w.heap.size + 1, 1, none⟩ v) w.heap.size D d done ∧ Rdr ((wr.setCell ⟨w.heap.size + 1, 0, none⟩ u).setCell ⟨w.heap.size + 1, 1, none⟩ v) B g A c zs p ∧ w.grownBy ((wr.setCell ⟨w.heap.size + 1, 0, none⟩ u).setCell ⟨w.heap.size + 1, 1, none⟩ v) (some g)) := by
  have h1 := s.gl
  have l1 : w.heap.size + 1 < w.heap.size + 2 := by omega
  exact ⟨((s.own.setLow (a := ⟨w.heap.size + 1, 0, none⟩) l1 u).setLow (a := ⟨w.heap.size + 1, 1, none⟩) l1 v).base_ (by omega),
    (s.rd.far (q := ⟨w.heap.size + 1, 0, none⟩) (by show g < w.heap.size + 1; omega) _).far (q := ⟨w.heap.size + 1, 1, none⟩) (by show g < w.heap.size + 1; omega) _,
    grown_set (q := ⟨w.heap.size + 1, 1, none⟩) (grown_set (q := ⟨w.heap.size + 1, 0, none⟩) s.grown (by show w.heap.size ≤ w.heap.size + 1; omega) _) (by show w.heap.size ≤ w.heap.size + 1; omega) _⟩
end
/-- A run is drawn. -/
def DrawnRun (B g : Nat) (A : Option Addr) (c : Nat) (zs : List Int) (p K : Nat) (w : World) (e : Ending) (w' : World) : Prop :=
  ∃ (st : Int) (D : Option Addr) (d : Nat) (done : List ByteArray) (p' : Nat), e = .returned (.agg #[.int .i64 st, .slice D done.length d]) ∧ OwnStrs w' w.heap.size D d done ∧ done.length ≤ 7 ∧ (∀ x ∈ done, x.size ≤ 6) ∧ p' ≤ p + K ∧ Rdr w' B g A c zs p' ∧ w.grownBy w' (some g)

/-- What is known behind the step that is done next. -/
def CutDo (wr : World) (B g : Nat) (A : Option Addr) (c : Nat) (zs : List Int) (p : Nat) (st : Int) (out : List ByteArray) (vb : Value) (wx : World) : Prop :=
  ∃ (b : Nat) (A' : Option Addr) (c' : Nat), vb = .pointer (some ⟨b, 0, none⟩) ∧ Cell2 wx b (.int .i64 st) (.slice A' out.length c') ∧ wr.heap.size ≤ b ∧ OwnStrs wx wr.heap.size A' c' out ∧ Rdr wx B g A c zs p ∧ wr.grownBy wx (some g)

theorem cutD_last {wr wK : World} {B g : Nat} {A : Option Addr} {c : Nat} {zs : List Int} {p : Nat} {st : Int} {out : List ByteArray} {base2 c' : Nat} {A' : Option Addr} (hg : wr.grownBy wK (some g)) (hr : Rdr wK B g A c zs p) (ho : OwnStrs wK base2 A' c' out) (h2 : wr.heap.size ≤ base2) :
    CutDo wr B g A c zs p st out (.pointer (some ⟨wK.heap.size, 0, none⟩)) (wK.alloc (.cells #[.int .i64 st, .slice A' out.length c'] 52)) :=
  ⟨wK.heap.size, A', c', rfl, Cell2.new wK _ _ _, hg.size, (ho.base_ h2).alloc _, hr.alloc _, grown_alloc hg _⟩
theorem cutD_early {wr wK : World} {B g : Nat} {A : Option Addr} {c : Nat} {zs : List Int} {p : Nat} {st : Int} {out : List ByteArray} {base2 b c' : Nat} {A' : Option Addr} {x y : Value} (hg : wr.grownBy wK (some g)) (hr : Rdr wK B g A c zs p) (bx : RBox wK b x y) (hb : wr.heap.size ≤ b) (hgl : g < wr.heap.size) (ho : OwnStrs wK base2 A' c' out) (hlt : b < base2) :
    CutDo wr B g A c zs p st out (.pointer (some ⟨b, 0, none⟩)) ((wK.setCell ⟨b, 0, none⟩ (.int .i64 st)).setCell ⟨b, 1, none⟩ (.slice A' out.length c')) :=
  ⟨b, A', c', rfl, ((bx.set0 _).set1 _).cell2, hb, ((ho.setLow (a := ⟨b, 0, none⟩) hlt _).setLow (a := ⟨b, 1, none⟩) hlt _).base_ (by omega),
    (hr.far (q := ⟨b, 0, none⟩) (by show g < b; omega) _).far (q := ⟨b, 1, none⟩) (by show g < b; omega) _, grown_set (q := ⟨b, 1, none⟩) (grown_set (q := ⟨b, 0, none⟩) hg hb _) hb _⟩
theorem far_ne {a b i : Nat} {p : Addr} (h : p.block < a) (k : a ≤ b) : (⟨b, i, none⟩ : Addr) ≠ p := fun e => by
  have : b = p.block := congrArg Addr.block e
  omega

set_option maxHeartbeats 16000000 in
theorem l91Run_any (B g : Nat) (A : Option Addr) (c : Nat) (zs : List Int) (p : Nat) (ver : Int) (SA : Option Addr) (sc : Nat) (ss : List St) (w : World) (h : Rdr w B g A c zs p) (hp : p ≤ 800000) (hf : StsG w g SA sc ss) (h1 : 1 ≤ ss.length) (h6 : ss.length ≤ 6) (hsm : Hid (∀ s ∈ ss, s.name.size ≤ 6)) :
    Calls Try.prog 96 #[.pointer (some ⟨g, 0, none⟩), flowV ver SA ss.length sc] w (DrawnRun B g A c zs p 20 w) := by
  have hgl := h.lt
  have hl1 := hf.here.len
  have hl2 := hf.here.cap
  have b0 : Below w.heap.size w ((w.alloc (.cells #[.int .i64 ver, .slice SA ss.length sc] 25)).alloc (.cells #[.int .i64 0, .slice none 0 0] 52)) := ((Below.refl _ _).alloc (Nat.le_refl _) _).alloc (by simp) _
  have y1 : FlowBox ((w.alloc (.cells #[.int .i64 ver, .slice SA ss.length sc] 25)).alloc (.cells #[.int .i64 0, .slice none 0 0] 52)) w.heap.size (.int .i64 ver) (.slice SA ss.length sc) := (Below.heap_alloc _ _ _ (by simp)).trans (FlowBox.new w _ _)
  have y2 : RBox ((w.alloc (.cells #[.int .i64 ver, .slice SA ss.length sc] 25)).alloc (.cells #[.int .i64 0, .slice none 0 0] 52)) (w.heap.size + 1) (.int .i64 0) (.slice none 0 0) := RBox.new_at _ _ _ (by simp)
  go_enter Try.func96, Try.ntmps96
  go_wp2_with fail
  (with_reducible refine (sRunNew_any ver SA sc ss _ _ (hf.here.then_ b0) (by omega)).mono ?_)
  rintro e w1 ⟨A5, c5, rfl, ho5, hb1⟩
  have b1 := bthen b0 hb1
  have z1 : FlowBox w1 w.heap.size (.int .i64 ver) (.slice SA ss.length sc) := (hb1.block _ y1.lt).trans y1
  have z2 := y2.then_ hb1
  have hz : w.heap.size + 2 ≤ w1.heap.size := by have := hb1.size; simp at this; omega
  have hs0 : ((w.alloc (.cells #[.int .i64 ver, .slice SA ss.length sc] 25)).alloc (.cells #[.int .i64 0, .slice none 0 0] 52)).heap.size = w.heap.size + 2 := by simp
  rw [hs0] at ho5
  obtain ⟨f0, f1⟩ := z1.cells
  obtain ⟨r0, r1⟩ := z2.cells
  have rf := fun i => z2.free i
  have hz0 : w.heap.size < w1.heap.size := by omega
  have hz1 : w.heap.size + 1 < w1.heap.size := by omega
  have stt : RunState w B g A c zs ver SA sc ss w1.heap.size (w1.alloc (.cells #[.int .i64 0, .slice A5 noNames.length c5] 52)) p 0 A5 c5 noNames := by
    refine ⟨(h.below b1 hgl).alloc _, (Below.heap_alloc _ _ _ z1.lt).trans z1, z2.alloc _, RBox.new _ _ _, ho5.alloc _, ?_, grown_trans (below_grown b1) (World.grownBy_alloc _ _ _), hgl, by omega⟩
    intro e
    cases A5 with
    | none => cases e
    | some q => injection e with e; have e2 : _ = q.block := e; have := (own_lt ho5).2; omega
  cases hok : flowOk ver ss
  · clear hok
    have hr1 := h.below b1 hgl
    have hg1 := below_grown (g := some g) b1
    go_wp2_with fail
    refine bodyPost_ret (v := .agg #[.int .i64 0, .slice none 0 0]) (by
      have e := fun i => World.cell?_alloc_lt ((w1.setCell ⟨w.heap.size + 1, 0, none⟩ (.int .i64 0)).setCell ⟨w.heap.size + 1, 1, none⟩ (.slice none 0 0)) (.cells #[.int .i64 0, .slice A5 noNames.length c5] 52) ⟨w.heap.size + 1, i, none⟩ (by simp; omega)
      simp [results, Try.results96, go_sem, e, r0, r1]) rfl ?_
    exact ⟨0, none, 0, [], p, rfl, OwnStrs.nil_ _ _, by simp, by simp, by omega,
      ((hr1.far (q := ⟨w.heap.size + 1, 0, none⟩) (by show g < w.heap.size + 1; omega) _).far (q := ⟨w.heap.size + 1, 1, none⟩) (by show g < w.heap.size + 1; omega) _).alloc _,
      grown_alloc (grown_set (q := ⟨w.heap.size + 1, 1, none⟩) (grown_set (q := ⟨w.heap.size + 1, 0, none⟩) hg1 (by show w.heap.size ≤ w.heap.size + 1; omega) _) (by show w.heap.size ≤ w.heap.size + 1; omega) _) _⟩
  · clear hok f0 f1 r0 r1 rf z1 z2 y1 y2 b0 ho5 hb1 hs0
    obtain ⟨f0, f1⟩ := stt.flow.cells
    go_wp2_with fail
    (with_reducible refine (pick_any B g A c zs p _ _ stt.rd (by omega)).mono ?_)
    rintro e w2 ⟨v, rfl, hv0, hv1, hr2, hg2⟩
    obtain ⟨n, rfl⟩ := Int.eq_ofNat_of_zero_le hv0
    have hn : n ≤ 7 := by omega
    have st2 := stt.after hr2 hg2
    have hA0 : ∃ D d done, RunState w B g A c zs ver SA sc ss w1.heap.size w2 (p + 1) 0 D d done ∧ (∀ x ∈ done, x ∈ names ss) ∧ done.length ≤ ss.length := ⟨A5, c5, noNames, st2, by simp [noNames], by simp [noNames]⟩
    clear stt st2 f0 f1 hr2 hg2 hv1 hv0
    go_wp2_with fail
    go_loopw [8] (fun i wr => ∃ (k p' : Nat) (st : Int) (D : Option Addr) (d : Nat) (done : List ByteArray), k ≤ n ∧ i = .int .i64 k ∧ p' ≤ p + 1 + k ∧ RunState w B g A c zs ver SA sc ss w1.heap.size wr p' st D d done ∧ (∀ x ∈ done, x ∈ names ss) ∧ done.length ≤ ss.length) (fun i _ => n - (intOf i).toNat)
    case atStart =>
      obtain ⟨D, d, done, st2, hs, hl⟩ := hA0
      exact ⟨0, p + 1, 0, D, d, done, Nat.zero_le _, rfl, by omega, st2, hs, hl⟩
    case round =>
      clear hA0
      obtain ⟨k, p', st, D, d, done, hk, rfl, hp', stR, hsub0, hlen⟩ := hrel
      have hsub := Lib.hid hsub0
      clear hsub0
      by_cases hlt : k < n
      · obtain ⟨f0, f1⟩ := stR.flow.cells
        obtain ⟨u0, u1⟩ := stR.run.cells
        have hrl := stR.rl
        have hown := stR.own.strs
        have hol := hown.len
        have hoc := hown.cap
        go_wp2_with fail
        (with_reducible refine (sFlowReady_any ver SA D sc d ss done wr _ _ (hf.to stR.grown) hown (by omega)).mono ?_)
        rintro e w3 ⟨A9, c9, rfl, ho9, hb9⟩
        have st3 := stR.below_ hb9
        have hz3 := hb9.size
        have hwr : w.heap.size ≤ wr.heap.size := stR.grown.size
        generalize readyOut ver ss done = xs at *
        clear f0 f1 u0 u1 stR hown hol hoc hb9
        obtain ⟨f0, f1⟩ := st3.flow.cells
        obtain ⟨u0, u1⟩ := st3.run.cells
        have hx1 := ho9.strs.len
        have hx2 := ho9.strs.cap
        by_cases hx : 0 < xs.length ∧ st = 0
        · obtain ⟨hx0, rfl⟩ := hx
          obtain ⟨v2, hv20, hv21, hfix⟩ := pick_fix zs p' xs.length
          obtain ⟨m, rfl⟩ := Int.eq_ofNat_of_zero_le hv20
          have hm : m < xs.length := by omega
          obtain ⟨X, hX⟩ : ∃ X, X = xs[m] := ⟨_, rfl⟩
          have hXs : X.size ≤ 9223372036854775807 := by rw [hX]; exact ho9.strs.lens _ _
          obtain ⟨ad9, rfl, had9, hc9⟩ := ho9.strs.at_ hm
          rw [← hX] at hc9
          have hadl := (own_lt ho9).1
          have HX := Lib.hid hX
          clear hX
          have hx0' : (0 : Int) < xs.length := by omega
          have hm0 : (0 : Int) ≤ m := by omega
          have hm1 : (m : Int) < xs.length := by omega
          go_upto_region 10 with fail
          go_cut [10, 11] (fun vb vo wx => CutDo w3 B g A c zs (p' + 1) (doSt ver ss 0 done X) (doDone ver ss 0 done X) vb wx ∧ vo = .bool (canB ver ss 0 done X))
          case first =>
            have hg3 := st3.gl
            have hl3 := st3.rl
            have hS : ∀ wx, w3.drew.grownBy wx (some g) → ((wx.cell? ⟨w.heap.size, 0, none⟩ = some (.int .i64 ver) ∧ wx.cell? ⟨w.heap.size, 1, none⟩ = some (.slice SA ss.length sc)) ∧ (wx.cell? ⟨w1.heap.size, 0, none⟩ = some (.int .i64 0) ∧ wx.cell? ⟨w1.heap.size, 1, none⟩ = some (.slice D done.length d)) ∧ wx.cell? (ad9.add m) = some (.string X)) ∧ Sts wx wx.heap.size SA sc ss ∧ Strs wx wx.heap.size D d done := by
              intro wx hg
              have hg' : w3.grownBy wx (some g) := ⟨hg.os, hg.tape, hg.output, hg.size, hg.block⟩
              have hgw := grown_trans st3.grown hg'
              refine ⟨⟨(st3.flow.keepG hg' (by omega)).cells, (st3.run.keep_ hg' (by omega)).cells, hg'.cell hc9 (fun e => by injection e with e; rw [block_of_add] at e; omega)⟩, hf.to hgw, ?_⟩
              exact (own_move st3.own fun k h1 h2 => hg'.block k h2 (fun e => by injection e with e; omega)).strs
            have HS := Lib.hid hS
            have KD : Hid (∀ wx, w3.drew.grownBy wx (some g) → Calls Try.prog 102 #[flowV ver SA ss.length sc, runV 0 D done.length d, .string X] wx (RetRun (doSt ver ss 0 done X) (doDone ver ss 0 done X) (canB ver ss 0 done X) wx)) := fun wx hg =>
              sRunDo_any ver 0 SA D sc d ss done X wx _ _ (hS wx hg).2.1 (hS wx hg).2.2 hXs (by omega)
            have hr0 : Rdr w3.drew B g A c zs p' := st3.rd.keep fun _ _ => rfl
            have hg0 : w3.drew.grownBy w3.drew (some g) := World.grownBy.refl _ _
            have hgA : w3.drew.grownBy (w3.alloc (.cells #[.int .i64 0, .slice none 0 0] 52)).drew (some g) := by
              have := World.grownBy_alloc w3 (.cells #[.int .i64 0, .slice none 0 0] 52) (some g)
              exact ⟨this.os, this.tape, this.output, this.size, this.block⟩
            have hrA : Rdr (w3.alloc (.cells #[.int .i64 0, .slice none 0 0] 52)).drew B g A c zs p' := (st3.rd.alloc _).keep fun _ _ => rfl
            have bxA : RBox (w3.alloc (.cells #[.int .i64 0, .slice none 0 0] 52)).drew w3.heap.size (.int .i64 0) (.slice none 0 0) := (RBox.new w3 _ _).drew
            have hP := Lib.hid (fun (wx : World) (hr : Rdr wx B g A c zs p') => hfix B g A c wx hr (by omega))
            have hgl3 : g < w3.heap.size := st3.rd.lt
            have S0 := (HS.out _ hg0).1
            have SA0 := (HS.out _ hgA).1
            have hlow : (w.heap.size < w3.heap.size ∧ w1.heap.size < w3.heap.size) ∧ (ad9.add m).block < w3.heap.size := ⟨⟨st3.flow.lt, st3.run.lt⟩, by rw [block_of_add]; exact had9⟩
            have Hlow := Lib.hid hlow
            have Hgr := Lib.hid st3
            clear hS hfix st3 hc9 hsub hlow f0 f1 u0 u1
            go_region_held3 (fun wx => (wx.cell? ⟨w.heap.size, 0, none⟩ = some (.int .i64 ver) ∧ wx.cell? ⟨w.heap.size, 1, none⟩ = some (.slice SA ss.length sc)) ∧ (wx.cell? ⟨w1.heap.size, 0, none⟩ = some (.int .i64 0) ∧ wx.cell? ⟨w1.heap.size, 1, none⟩ = some (.slice D done.length d)) ∧ wx.cell? (ad9.add m) = some (.string X))
              (first
                | exact Sb | exact Sa | exact S0 | exact SA0
                | exact And.intro (And.intro (cell_al Sb.1.1 _) (cell_al Sb.1.2 _)) (And.intro (And.intro (cell_al Sb.2.1.1 _) (cell_al Sb.2.1.2 _)) (cell_al Sb.2.2 _))
                | exact And.intro (And.intro (cell_al Sa.1.1 _) (cell_al Sa.1.2 _)) (And.intro (And.intro (cell_al Sa.2.1.1 _) (cell_al Sa.2.1.2 _)) (cell_al Sa.2.2 _))
                | exact And.intro (And.intro (cell_st (blk_ne Hlow.out.1.1 bz) (cell_st (blk_ne Hlow.out.1.1 bz) Sb.1.1)) (cell_st (blk_ne Hlow.out.1.1 bz) (cell_st (blk_ne Hlow.out.1.1 bz) Sb.1.2))) (And.intro (And.intro (cell_st (blk_ne Hlow.out.1.2 bz) (cell_st (blk_ne Hlow.out.1.2 bz) Sb.2.1.1)) (cell_st (blk_ne Hlow.out.1.2 bz) (cell_st (blk_ne Hlow.out.1.2 bz) Sb.2.1.2))) (cell_st (far_ne Hlow.out.2 bz) (cell_st (far_ne Hlow.out.2 bz) Sb.2.2))))
              (first
                | (go_at_call 64; (with_reducible refine (hP.out _ hrA).mono ?_); rintro e wa ⟨rfl, hra, hga0⟩; have hga := grown_trans hgA hga0; have bx := bxA.keep_ hga0 (by omega); have bz := Nat.le_refl w3.heap.size; have Sa := (HS.out _ hga).1)
                | (go_at_call 64; (with_reducible refine (hP.out _ hr0).mono ?_); rintro e wa ⟨rfl, hra, hga⟩; have Sa := (HS.out _ hga).1)
                | (go_at_call 102; have bx0 := bx; (with_reducible refine (KD.out wa hga).mono ?_); rintro e wb ⟨A7, c7, rfl, ho7, hbb⟩; have hgb := grown_trans hga (below_grown hbb); have hrb := hra.below hbb hra.lt; have bl := bx0.lt; have bx := bx0.then_ hbb; have bf := fun i => bx.free i; obtain ⟨bc0, bc1⟩ := bx.cells; have Sb := (HS.out _ hgb).1)
                | (go_at_call 102; (with_reducible refine (KD.out (wa.alloc (.cells #[.int .i64 0, .slice none 0 0] 52)) (grown_alloc hga _)).mono ?_); rintro e wb ⟨A7, c7, rfl, ho7, hbb⟩; have hgb := grown_trans (grown_alloc hga _) (below_grown hbb); have hrb := (hra.alloc (.cells #[.int .i64 0, .slice none 0 0] 52)).below hbb (hra.alloc _).lt; have bx0 := RBox.new wa (.int .i64 0) (.slice none 0 0); have bz : w3.heap.size ≤ wa.heap.size := hga.size; have bl := bx0.lt; have bx := bx0.then_ hbb; have bf := fun i => bx.free i; obtain ⟨bc0, bc1⟩ := bx.cells; have Sb := (HS.out _ hgb).1)
                | (go_at_call 102; (with_reducible refine (KD.out wa hga).mono ?_); rintro e wb ⟨A7, c7, rfl, ho7, hbb⟩; have hgb := grown_trans hga (below_grown hbb); have hrb := hra.below hbb hra.lt; have Sb := (HS.out _ hgb).1))
            all_goals
              go_wp2_with fail
              go_meet
              have hgb' : w3.grownBy wb (some g) := ⟨hgb.os, hgb.tape, hgb.output, hgb.size, hgb.block⟩
              first
                | exact ⟨cutD_early hgb' hrb bx bz hgl3 ho7 bl, rfl⟩
                | exact ⟨cutD_last hgb' hrb ho7 hga.size, rfl⟩
          case rest =>
            obtain ⟨w5, rfl⟩ : ∃ w5 : World, w5 = wc := ⟨_, rfl⟩
            obtain ⟨⟨b, A7, c7, rfl, qb, hbz, ho7, hr7, hg7⟩, rfl⟩ := hcut
            have st5 := st3.after hr7 hg7
            have hl3 := st3.run.lt
            have hne7 : some w1.heap.size ≠ A7.map (·.block) := by
              intro e
              cases A7 with
              | none => cases e
              | some q => injection e with e; have e2 : w1.heap.size = q.block := e; have := (own_lt ho7).1; omega
            have hdl := do_bound ver 0 ss done X
            have hds := Lib.hid (do_sub ver 0 ss done X)
            have stN := st5.turn (st' := doSt ver ss 0 done X) (ho7.base_ (by omega)) hne7
            obtain ⟨q0, q1⟩ := qb
            generalize doDone ver ss 0 done X = dn at *
            generalize doSt ver ss 0 done X = sn at *
            generalize canB ver ss 0 done X = cn at *
            clear f0 f1 u0 u1 st3 hc9 hsub hfix
            obtain ⟨u0, u1⟩ := st5.run.cells
            have uf := fun i => st5.run.free i
            clear st5
            go_wp2_with fail
            go_roundw
            case rel => exact ⟨k + 1, p' + 1, sn, A7, c7, dn, by omega, by go_num, by omega, stN, hds.out, hdl⟩
            case measure => simp [intOf]; omega
        · have hx' : xs.length = 0 ∨ (0 < xs.length ∧ ¬ st = 0) := by
            rcases Nat.eq_zero_or_pos xs.length with h0 | h0
            · exact .inl h0
            · exact .inr ⟨h0, fun e => hx ⟨h0, e⟩⟩
          clear hx
          rcases hx' with h0 | ⟨h0, s0⟩
          · obtain rfl : xs = [] := List.eq_nil_of_length_eq_zero h0
            have hd0 : decide ((0 : Int) < 0) = false := by simp
            clear h0
            go_wp2_with fail
            go_roundw
            case rel => exact ⟨k + 1, p', st, D, d, done, by omega, by go_num, by omega, st3, hsub.out, hlen⟩
            case measure => simp [intOf]; omega
          · have e0 : (st == 0) = false := beq_eq_false_iff_ne.2 s0
            have hd0 : decide ((0 : Int) < xs.length) = true := by simp; omega
            have hd1 : (0 : Int) < xs.length := by omega
            clear s0
            go_wp2_with fail
            go_roundw
            case rel => exact ⟨k + 1, p', st, D, d, done, by omega, by go_num, by omega, st3, hsub.out, hlen⟩
            case measure => simp [intOf]; omega
      · obtain ⟨u0, u1⟩ := stR.run.cells
        have hsz : ∀ x ∈ done, x.size ≤ 6 := fun x hx => by
          obtain ⟨s, hs, rfl⟩ := List.mem_map.1 (hsub.out x hx)
          exact hsm.out s hs
        have Hsz := Lib.hid hsz
        clear hsz
        go_upto_region 12 with fail
        go_cut [64] (fun vb wx => ∃ (bb : Bool) (p2 : Nat), vb = .bool bb ∧ p2 ≤ p' + 1 ∧ RunState w B g A c zs ver SA sc ss w1.heap.size wx p2 st D d done)
        case first =>
          by_cases s0 : st = 0
          · have e0 : (st == 0) = true := beq_iff_eq.2 s0
            clear s0
            go_wp2_with fail
            (with_reducible refine (pick_any B g A c zs p' _ _ stR.rd (by omega)).mono ?_)
            rintro e w6 ⟨v6, rfl, hv60, hv61, hr6, hg6⟩
            have st6 := stR.after hr6 hg6
            by_cases hv6 : v6 = 0
            · subst hv6
              go_wp2_with fail
              go_meet
              exact ⟨true, p' + 1, rfl, by omega, st6⟩
            · have e6 : (v6 == 0) = false := beq_eq_false_iff_ne.2 hv6
              clear hv6
              go_wp2_with fail
              go_meet
              exact ⟨false, p' + 1, rfl, by omega, st6⟩
          · have e0 : (st == 0) = false := beq_eq_false_iff_ne.2 s0
            clear s0
            go_wp2_with fail
            go_meet
            exact ⟨false, p', rfl, by omega, stR⟩
        case rest =>
          obtain ⟨w6, rfl⟩ : ∃ w6 : World, w6 = wc := ⟨_, rfl⟩
          obtain ⟨bb, p2, rfl, hp2, st6⟩ := hcut
          clear u0 u1 stR
          cases bb
          case' true =>
            obtain ⟨f0, f1⟩ := st6.flow.cells
            obtain ⟨u0, u1⟩ := st6.run.cells
            go_wp2_with fail
            (with_reducible refine (l3Back_any ver SA D sc d ss done w6 _ _ (hf.to st6.grown) st6.own.strs hsub (by omega)).mono ?_)
            rintro e w7 ⟨D8, d8, rfl, ho7, hb7⟩
            have st7 := st6.below_ hb7
            have hl7 := st6.run.lt
            have hne7 : some w1.heap.size ≠ D8.map (·.block) := by
              intro e
              cases D8 with
              | none => cases e
              | some q => injection e with e; have e2 : w1.heap.size = q.block := e; have := (own_lt ho7).1; omega
            have stF := st7.turn (st' := backSt ss done) (ho7.base_ (by have := st6.grown.size; have := st6.rl; omega)) hne7
            generalize backSt ss done = st8 at *
            clear f0 f1 u0 u1 st6 ho7 hb7
            obtain ⟨u0, u1⟩ := st7.run.cells
            have uf := fun i => st7.run.free i
            clear st7
          case' false =>
            have stF := st6
            obtain ⟨D8, rfl⟩ : ∃ x : Option Addr, x = D := ⟨_, rfl⟩
            obtain ⟨d8, rfl⟩ : ∃ x : Nat, x = d := ⟨_, rfl⟩
            obtain ⟨st8, rfl⟩ : ∃ x : Int, x = st := ⟨_, rfl⟩
            obtain ⟨u0, u1⟩ := st6.run.cells
            have uf := fun i => st6.run.free i
            clear st6
          all_goals
            go_wp2_with fail
            (with_reducible refine (pick_any B g A c zs p2 _ _ stF.rd (by omega)).mono ?_)
            rintro e w8 ⟨v8, rfl, hv80, hv81, hr8, hg8⟩
            have stG := stF.after hr8 hg8
            clear u0 u1 uf stF hr8 hg8
            obtain ⟨u0, u1⟩ := stG.run.cells
            have uf := fun i => stG.run.free i
            obtain ⟨r0, r1⟩ := stG.res.cells
            have rf := fun i => stG.res.free i
            have hrl := stG.rl
            by_cases hv0 : v8 = 0
            · subst hv0
              go_wp2_with fail
              (with_reducible refine (pick_any B g A c zs (p2 + 1) _ _ stG.rd (by omega)).mono ?_)
              rintro e w9 ⟨v9, rfl, hv90, hv91, hr9, hg9⟩
              have st9 := stG.after hr9 hg9
              have stH := st9.turn0 (v9 - 1)
              clear u0 u1 uf r0 r1 rf stG hr9 hg9
              obtain ⟨u0, u1⟩ := st9.run.cells
              have uf := fun i => st9.run.free i
              obtain ⟨r0, r1⟩ := st9.res.cells
              have rf := fun i => st9.res.free i
              have hl9 := st9.run.lt
              have hl9' := st9.res.lt
              have hv92 : v9 ≤ 5 := by omega
              have hD := stH.done_ (.int .i64 (v9 - 1)) (.slice D8 done.length d8)
              clear st9 hv91 hv81
              go_wp2_with fail
              refine bodyPost_ret (v := .agg #[.int .i64 (v9 - 1), .slice D8 done.length d8]) (by simp [results, Try.results96, go_sem, r0, r1]) rfl ?_
              exact ⟨_, D8, d8, done, p2 + 1 + 1, rfl, hD.out.1, by omega, Hsz.out, by omega, hD.out.2.1, hD.out.2.2⟩
            · have e0 : (v8 == 0) = false := beq_eq_false_iff_ne.2 hv0
              by_cases hv1 : v8 = 1
              · subst hv1
                have hl9 := stG.run.lt
                have hl9' := stG.res.lt
                clear e0 hv0
                have hown := stG.own.alloc (.cells #[.string ⟨#[97]⟩] 9)
                have hbs := stG.grown.size
                have hbs2 : w.heap.size + 2 ≤ (w8.alloc (.cells #[.string ⟨#[97]⟩] 9)).heap.size := by simp; omega
                go_wp2_with (at_builtin; (refine wpList_append_name _ rfl (.tmp 80) (.tmp 81) rfl (w.heap.size + 2) D8 d8 done rfl hown ⟨w8.heap.size, 0, none⟩ 1 ⟨#[97]⟩ rfl (cell_new1 _ _ _) (by decide) (by omega) hbs2 ?_); intro A3 c3 w9 hap; obtain ⟨hrun9, hres9, stH⟩ := stG.appended hap; obtain ⟨k0, k1⟩ := hrun9.cells; have kf := fun i => hrun9.free i; obtain ⟨j0, j1⟩ := hres9.cells; have jf := fun i => hres9.free i)
                have hD := stH.done_ (.int .i64 st8) (.slice A3 (done.length + 1) c3)
                have hx6 : ∀ x ∈ done ++ [(⟨#[97]⟩ : ByteArray)], x.size ≤ 6 := by
                  intro x hx
                  rcases List.mem_append.1 hx with hx | hx
                  · exact Hsz.out x hx
                  · simp at hx; subst hx; decide
                refine bodyPost_ret (v := .agg #[.int .i64 st8, .slice A3 (done.length + 1) c3]) (by simp [results, Try.results96, go_sem, j0, j1]) rfl ?_
                exact ⟨st8, A3, c3, done ++ [⟨#[97]⟩], p2 + 1, by simp, hD.out.1, by simp; omega, hx6, by omega, hD.out.2.1, hD.out.2.2⟩
              · have e1 : (v8 == 1) = false := beq_eq_false_iff_ne.2 hv1
                have hD := stG.done_ (.int .i64 st8) (.slice D8 done.length d8)
                clear hv0 hv1 stG
                go_wp2_with fail
                refine bodyPost_ret (v := .agg #[.int .i64 st8, .slice D8 done.length d8]) (by simp [results, Try.results96, go_sem, r0, r1]) rfl ?_
                exact ⟨st8, D8, d8, done, p2 + 1, rfl, hD.out.1, by omega, Hsz.out, by omega, hD.out.2.1, hD.out.2.2⟩
end Go.Proofs.Ytfkjcldaclkkaaa
