/- Contract of the draw of a run that may not be valid: DrawRunValid. No condition. -/
import Derived.Test.YtfkjcldaclkkaaaDrawRuns
namespace Go.Proofs.Ytfkjcldaclkkaaa
set_option linter.unusedVariables false
set_option maxRecDepth 100000
open Go.RowKit

/-- The steps lie in the blocks from lo on, below block m. -/
def StsIn (w : World) (lo m : Nat) (SA : Option Addr) (sc : Nat) (ss : List St) : Prop :=
  ∀ w' : World, (∀ k, lo ≤ k → k < m → w'.heap[k]? = w.heap[k]?) → Sts w' w'.heap.size SA sc ss
/-- The steps and the names lie apart. -/
structure SepMid (w : World) (lo m : Nat) (SA : Option Addr) (sc : Nat) (ss : List St) (D : Option Addr) (d : Nat) (done : List ByteArray) : Prop where
  sts : StsIn w lo m SA sc ss
  own : OwnStrs w m D d done
  lom : lo ≤ m
  hi : m ≤ w.heap.size
section
variable {w w' : World} {lo m : Nat} {SA : Option Addr} {sc : Nat} {ss : List St} {D : Option Addr} {d : Nat} {done : List ByteArray}
theorem StsIn.of_ (h : OwnSteps w lo lo SA sc ss) : StsIn w lo w.heap.size SA sc ss := fun w' hk =>
  (h.move fun k h1 hor => hk k (by
    rcases hor with ⟨q, hq, e⟩ | hor
    · have := (h.blocks q hq).1; omega
    · exact hor) h1).sts
theorem StsIn.go (h : StsIn w lo m SA sc ss) (hk : ∀ k, lo ≤ k → k < m → w'.heap[k]? = w.heap[k]?) : StsIn w' lo m SA sc ss := fun _ hk2 => h _ fun k h1 h2 => (hk2 k h1 h2).trans (hk k h1 h2)
theorem StsIn.here (h : StsIn w lo m SA sc ss) : Sts w w.heap.size SA sc ss := h w fun _ _ _ => rfl
theorem OwnStrs.setO {base : Nat} {A : Option Addr} {c : Nat} {xs : List ByteArray} (h : OwnStrs w base A c xs) {p : Addr} (hne : ∀ q, A = some q → q.block ≠ p.block) (u : Value) : OwnStrs (w.setCell p u) base A c xs :=
  ⟨row_move h.1 fun k e => by
    cases A with
    | none => cases e
    | some q =>
      have e : q.block = k := by injection e
      exact Below.heap_setCell _ _ _ _ (by rw [← e]; exact hne q rfl), h.2⟩
theorem OwnStrs.putS {base b : Nat} {c : Nat} {xs : List ByteArray} (h : OwnStrs w base (some ⟨b, 0, none⟩) c xs) (j : Nat) {x : ByteArray} (hx : x.size ≤ 9223372036854775807) : OwnStrs (w.setCell ⟨b, j, none⟩ (.string x)) base (some ⟨b, 0, none⟩) c (xs.set j x) := by
  refine ⟨?_, fun y hy => ?_⟩
  · have := (h.1.stored j (.string x)).1
    rw [← List.map_set] at this
    simpa using this
  · rcases List.mem_or_eq_of_mem_set hy with hy | rfl
    · exact h.2 y hy
    · exact hx
theorem OwnStrs.form {base : Nat} {A : Option Addr} {c : Nat} {xs : List ByteArray} (h : OwnStrs w base A c xs) (h0 : 0 < xs.length) : ∃ b, A = some ⟨b, 0, none⟩ ∧ base ≤ b ∧ b < w.heap.size := by
  rcases h.1.2 with ⟨_, hn⟩ | ⟨g, cap, cur, hv, hg, hh, _⟩
  · omega
  · injection hv with h1 h2 h3
    exact ⟨g, h1, hg, (Array.getElem?_eq_some_iff.1 hh).1⟩
theorem SepMid.set (h : SepMid w lo m SA sc ss D d done) {p : Addr} (hp : p.block < lo) (u : Value) : SepMid (w.setCell p u) lo m SA sc ss D d done :=
  ⟨h.sts.go fun k h1 h2 => Below.heap_setCell _ _ _ _ (by omega), h.own.setLow (by have := h.lom; omega) u, h.lom, by simpa using h.hi⟩
theorem SepMid.grown {g : Nat} (h : SepMid w lo m SA sc ss D d done) (hg : w.grownBy w' (some g)) (hl : g < lo) : SepMid w' lo m SA sc ss D d done :=
  ⟨h.sts.go fun k h1 h2 => hg.block k (by have := h.hi; omega) (fun e => by injection e with e; omega), own_move h.own fun k h1 h2 => hg.block k h2 (fun e => by injection e with e; have := h.lom; omega), h.lom, by have := hg.size; have := h.hi; omega⟩
theorem SepMid.high (h : SepMid w lo m SA sc ss D d done) {p : Addr} (hp : m ≤ p.block) (hne : ∀ q, D = some q → q.block ≠ p.block) (u : Value) : SepMid (w.setCell p u) lo m SA sc ss D d done :=
  ⟨h.sts.go fun k h1 h2 => Below.heap_setCell _ _ _ _ (by omega), h.own.setO hne u, h.lom, by simpa using h.hi⟩
theorem SepMid.put {b : Nat} (h : SepMid w lo m SA sc ss (some ⟨b, 0, none⟩) d done) (hb : m ≤ b) (j : Nat) {x : ByteArray} (hx : x.size ≤ 9223372036854775807) : SepMid (w.setCell ⟨b, j, none⟩ (.string x)) lo m SA sc ss (some ⟨b, 0, none⟩) d (done.set j x) :=
  ⟨h.sts.go fun k h1 h2 => Below.heap_setCell _ _ _ _ (by show k ≠ b; omega), h.own.putS j hx, h.lom, by simpa using h.hi⟩
end
/-- A flow and a run are drawn, and lie apart. -/
def DrawnSep (B g : Nat) (A : Option Addr) (c : Nat) (zs : List Int) (w : World) (e : Ending) (w' : World) : Prop :=
  ∃ (ver : Int) (SA : Option Addr) (sc : Nat) (ss : List St) (st : Int) (D : Option Addr) (d : Nat) (done : List ByteArray) (p m : Nat), e = .returned (.tuple #[.agg #[.int .i64 ver, .slice SA ss.length sc], .agg #[.int .i64 st, .slice D done.length d]]) ∧ BothAt w B g A c zs p w' ver SA sc ss st D d done ∧ p ≤ 400000 ∧ SepMid w' (w.heap.size + 2) m SA sc ss D d done

set_option maxHeartbeats 4000000 in
theorem l91Both_sep (B g : Nat) (A : Option Addr) (c : Nat) (zs : List Int) (p : Nat) (w : World) (h : Rdr w B g A c zs p) (hp : p ≤ 300000) :
    Calls Try.prog 73 #[.pointer (some ⟨g, 0, none⟩)] w (DrawnSep B g A c zs w) := by
  have hgl := h.lt
  have y1 : FlowBox ((w.alloc (.cells #[.int .i64 0, .slice none 0 0] 25)).alloc (.cells #[.int .i64 0, .slice none 0 0] 52)) w.heap.size (.int .i64 0) (.slice none 0 0) := (Below.heap_alloc _ _ _ (by simp)).trans (FlowBox.new w _ _)
  have y2 : RBox ((w.alloc (.cells #[.int .i64 0, .slice none 0 0] 25)).alloc (.cells #[.int .i64 0, .slice none 0 0] 52)) (w.heap.size + 1) (.int .i64 0) (.slice none 0 0) := RBox.new_at _ _ _ (by simp)
  have hg0 : w.grownBy ((w.alloc (.cells #[.int .i64 0, .slice none 0 0] 25)).alloc (.cells #[.int .i64 0, .slice none 0 0] 52)) (some g) := grown_alloc (World.grownBy_alloc _ _ _) _
  go_enter Try.func73, Try.ntmps73
  go_wp2_with fail
  (with_reducible refine (l91Flow_any B g A c zs p _ ((h.alloc _).alloc _) (by omega)).mono ?_)
  rintro e w2 ⟨ver, SA, sc, ss, p2, rfl, ho2, h1, h6, hsm, hp2, hr2, hg2⟩
  have hs0 : ((w.alloc (.cells #[.int .i64 0, .slice none 0 0] 25)).alloc (.cells #[.int .i64 0, .slice none 0 0] 52)).heap.size = w.heap.size + 2 := by simp
  have z1 := y1.keepG hg2 (by omega)
  have z2 := y2.keep_ hg2 (by omega)
  have hgw := grown_trans hg0 hg2
  rw [hs0] at ho2
  have hz2 : w.heap.size + 2 ≤ w2.heap.size := by have := hg2.size; omega
  clear hg2 hs0 y1 y2 hg0
  have KR := Lib.hid (l91Run_any B g A c zs p2 ver SA sc ss (w2.alloc (.cells #[.int .i64 ver, .slice SA ss.length sc] 25)).drew ((hr2.alloc _).keep fun _ _ => rfl) (by omega) (StsG.of_ ((ho2.alloc (.cells #[.int .i64 ver, .slice SA ss.length sc] 25)).drew) (by omega) (by omega)) h1 h6 (Lib.hid (fun s hs => (hsm s hs).1.2)))
  have bx : FlowBox (w2.alloc (.cells #[.int .i64 ver, .slice SA ss.length sc] 25)).drew w2.heap.size (.int .i64 ver) (.slice SA ss.length sc) := FlowBox.new w2 _ _
  have v1 : FlowBox (w2.alloc (.cells #[.int .i64 ver, .slice SA ss.length sc] 25)).drew w.heap.size (.int .i64 0) (.slice none 0 0) := (Below.heap_alloc _ _ _ z1.lt).trans z1
  have v2 : RBox (w2.alloc (.cells #[.int .i64 ver, .slice SA ss.length sc] 25)).drew (w.heap.size + 1) (.int .i64 0) (.slice none 0 0) := (z2.alloc _).drew
  have S0 := bx.cells
  have hne0 : ∀ i j, (⟨w.heap.size, i, none⟩ : Addr) ≠ ⟨w2.heap.size, j, none⟩ := fun i j e => by injection e with e; omega
  have hne1 : ∀ i j, (⟨w.heap.size + 1, i, none⟩ : Addr) ≠ ⟨w2.heap.size, j, none⟩ := fun i j e => by injection e with e; omega
  have Hne0 := Lib.hid hne0
  have Hne1 := Lib.hid hne1
  clear hne0 hne1
  go_wp2_with fail
  go_region_held3 (fun wx => wx.cell? ⟨w2.heap.size, 0, none⟩ = some (.int .i64 ver) ∧ wx.cell? ⟨w2.heap.size, 1, none⟩ = some (.slice SA ss.length sc))
    (first
      | exact S3 | exact S0
      | exact And.intro (cell_st (Hne0.out _ _) (cell_st (Hne0.out _ _) S3.1)) (cell_st (Hne0.out _ _) (cell_st (Hne0.out _ _) S3.2))
      | exact And.intro (cell_st (Hne1.out _ _) (cell_st (Hne1.out _ _) S3.1)) (cell_st (Hne1.out _ _) (cell_st (Hne1.out _ _) S3.2))
      | exact And.intro (cell_st (Hne1.out _ _) (cell_st (Hne1.out _ _) (cell_st (Hne0.out _ _) (cell_st (Hne0.out _ _) S3.1)))) (cell_st (Hne1.out _ _) (cell_st (Hne1.out _ _) (cell_st (Hne0.out _ _) (cell_st (Hne0.out _ _) S3.2))))
      | exact And.intro (cell_st (Hne0.out _ _) (cell_st (Hne0.out _ _) (cell_st (Hne1.out _ _) (cell_st (Hne1.out _ _) S3.1)))) (cell_st (Hne0.out _ _) (cell_st (Hne0.out _ _) (cell_st (Hne1.out _ _) (cell_st (Hne1.out _ _) S3.2))))
      | exact And.intro (cell_st (Hne0.out _ _) (cell_st (Hne0.out _ _) S0.1)) (cell_st (Hne0.out _ _) (cell_st (Hne0.out _ _) S0.2)))
    ((go_at_call 96; (with_reducible refine KR.out.mono ?_); rintro e w3 ⟨st, D, d, done, p3, rfl, ho3, hl3, hx3, hp3, hr3, hg3⟩; have u1 := v1.keepG hg3 (by omega); have u2 := v2.keep_ hg3 (by omega); have S3 := (bx.keepG hg3 (by omega)).cells; obtain ⟨a0, a1⟩ := u1.cells; obtain ⟨c0, c1⟩ := u2.cells; have af := fun i => u1.free i; have cf := fun i => u2.free i))
  have hm : BothMid w B g A c zs p3 w3 SA sc ss D d done :=
    ⟨((ho2.alloc _).drew).grown hg3 (by omega) (by omega), ho3.base_ (by show w.heap.size + 2 ≤ (w2.alloc _).heap.size; simp; omega), hr3, grown_trans (grown_trans hgw (World.grownBy_alloc _ _ _)) ⟨hg3.os, hg3.tape, hg3.output, hg3.size, hg3.block⟩, hgl⟩
  have hsep : SepMid w3 (w.heap.size + 2) w2.heap.size SA sc ss D d done :=
    ⟨(StsIn.of_ ho2).go fun k _ h2 => (hg3.block k (by show k < (w2.alloc _).heap.size; simp; omega) (fun e => by injection e with e; omega)).trans (Below.heap_alloc _ _ _ h2), ho3.base_ (by show w2.heap.size ≤ (w2.alloc _).heap.size; simp), hz2, by have h8 := hg3.size; have h9 : (w2.alloc (.cells #[.int .i64 ver, .slice SA ss.length sc] 25)).drew.heap.size = w2.heap.size + 1 := (by show (w2.alloc _).heap.size = _; simp); omega⟩
  have hp4 : p3 ≤ 400000 := by omega
  have Hsm := Lib.hid hsm
  have Hx3 := Lib.hid hx3
  clear hsm hx3 ho2 ho3 hr3 hg3 hr2 hgw KR
  all_goals
    go_wp2_with fail
    refine bodyPost_ret (v := .tuple #[.agg #[.int .i64 ver, .slice SA ss.length sc], .agg #[.int .i64 st, .slice D done.length d]]) (by simp [results, Try.results73, go_sem, a0, a1, c0, c1]) rfl ?_
    refine ⟨ver, SA, sc, ss, st, D, d, done, p3, w2.heap.size, rfl, BothMid.fin ?_ h1 h6 Hsm.out hl3 Hx3.out (by omega), hp4, ?_⟩
    · repeat (first | exact hm | refine BothMid.set0 ?_ _ _ | refine BothMid.set1 ?_ _ _)
    · repeat (first | exact hsep | refine SepMid.set ?_ (by show w.heap.size < w.heap.size + 2; omega) _ | refine SepMid.set ?_ (by show w.heap.size + 1 < w.heap.size + 2; omega) _)

/-- What is known while the run is turned. -/
structure ValMid (w : World) (A : Option Addr) (c : Nat) (zs : List Int) (ver : Int) (SA : Option Addr) (sc : Nat) (ss : List St) (st : Int) (D : Option Addr) (d : Nat) (done : List ByteArray) (fb lo m : Nat) (wr : World) (p : Nat) : Prop where
  sep : SepMid wr lo m SA sc ss D d done
  rd : Rdr wr w.heap.size (w.heap.size + 2) A c zs p
  low : Below w.heap.size w wr
  f5 : FlowBox wr fb (.int .i64 ver) (.slice SA ss.length sc)
  r6 : RBox wr (fb + 1) (.int .i64 st) (.slice D done.length d)
  f0 : FlowBox wr w.heap.size (.int .i64 0) (.slice none 0 0)
  r0 : RBox wr (w.heap.size + 1) (.int .i64 0) (.slice none 0 0)
  glo : w.heap.size + 2 < lo
  mfb : m ≤ fb
  db : ∀ q, D = some q → q.block < fb
structure ValEnd (w wr : World) (lo m : Nat) (SA : Option Addr) (sc : Nat) (ss : List St) (D : Option Addr) (d : Nat) (done : List ByteArray) : Prop where
  sep : SepMid wr lo m SA sc ss D d done
  low : Below w.heap.size w wr
  glo : w.heap.size + 2 < lo
section
variable {w wr w' : World} {A : Option Addr} {c : Nat} {zs : List Int} {ver st : Int} {SA : Option Addr} {sc : Nat} {ss : List St} {D : Option Addr} {d : Nat} {done : List ByteArray} {fb lo m p p' : Nat}
theorem ValMid.after (h : ValMid w A c zs ver SA sc ss st D d done fb lo m wr p) (hr : Rdr w' w.heap.size (w.heap.size + 2) A c zs p') (hg : wr.grownBy w' (some (w.heap.size + 2))) : ValMid w A c zs ver SA sc ss st D d done fb lo m w' p' := by
  have h1 := h.glo
  have h2 := h.mfb
  have h3 := h.sep.lom
  have h4 := h.low.size
  exact ⟨h.sep.grown hg h.glo, hr, h.low.trans (grown_below hg (by omega) (by omega)), h.f5.keepG hg (by omega), h.r6.keep_ hg (by omega), h.f0.keepG hg (by omega), h.r0.keep_ hg (by omega), h.glo, h.mfb, h.db⟩
theorem ValMid.setSt (h : ValMid w A c zs ver SA sc ss st D d done fb lo m wr p) (st' : Int) : ValMid w A c zs ver SA sc ss st' D d done fb lo m (wr.setCell ⟨fb + 1, 0, none⟩ (.int .i64 st')) p := by
  have h1 := h.glo
  have h2 := h.mfb
  have h3 := h.sep.lom
  exact ⟨h.sep.high (by show m ≤ fb + 1; omega) (fun q e => by have := h.db q e; show q.block ≠ fb + 1; omega) _, h.rd.far (by show w.heap.size + 2 < fb + 1; omega) _, h.low.setCell (by show w.heap.size ≤ fb + 1; omega) _, (Below.heap_setCell _ _ _ _ (by show fb ≠ fb + 1; omega)).trans h.f5, h.r6.set0 _, (Below.heap_setCell _ _ _ _ (by show w.heap.size ≠ fb + 1; omega)).trans h.f0, h.r0.far (by show w.heap.size + 1 ≠ fb + 1; omega), h.glo, h.mfb, h.db⟩
theorem ValMid.put {b : Nat} (h : ValMid w A c zs ver SA sc ss st (some ⟨b, 0, none⟩) d done fb lo m wr p) (hb : m ≤ b) (j : Nat) {x : ByteArray} (hx : x.size ≤ 9223372036854775807) : ValMid w A c zs ver SA sc ss st (some ⟨b, 0, none⟩) d (done.set j x) fb lo m (wr.setCell ⟨b, j, none⟩ (.string x)) p := by
  have h1 := h.glo
  have h2 := h.mfb
  have h3 := h.sep.lom
  have h4 := h.db _ rfl
  have h4 : b < fb := h4
  have hr := h.r6
  rw [← List.length_set (i := j) (a := x)] at hr
  exact ⟨h.sep.put hb j hx, h.rd.far (by show w.heap.size + 2 < b; omega) _, h.low.setCell (by show w.heap.size ≤ b; omega) _, (Below.heap_setCell _ _ _ _ (by show fb ≠ b; omega)).trans h.f5, hr.far (by show fb + 1 ≠ b; omega), (Below.heap_setCell _ _ _ _ (by show w.heap.size ≠ b; omega)).trans h.f0, h.r0.far (by show w.heap.size + 1 ≠ b; omega), h.glo, h.mfb, h.db⟩
theorem ValMid.drew (h : ValMid w A c zs ver SA sc ss st D d done fb lo m wr p) : ValMid w A c zs ver SA sc ss st D d done fb lo m wr.drew p := h.after (h.rd.keep fun _ _ => rfl) (by have := World.grownBy.refl wr (some (w.heap.size + 2)); exact ⟨this.os, this.tape, this.output, this.size, this.block⟩)
theorem ValMid.end_ (h : ValMid w A c zs ver SA sc ss st D d done fb lo m wr p) : ValEnd w wr lo m SA sc ss D d done := ⟨h.sep, h.low, h.glo⟩
theorem ValEnd.drew (h : ValEnd w wr lo m SA sc ss D d done) : ValEnd w wr.drew lo m SA sc ss D d done := ⟨⟨h.sep.sts.go fun _ _ _ => rfl, own_move h.sep.own fun _ _ _ => rfl, h.sep.lom, h.sep.hi⟩, h.low.drew, h.glo⟩
theorem ValEnd.set0 (h : ValEnd w wr lo m SA sc ss D d done) (j : Nat) (u : Value) : ValEnd w (wr.setCell ⟨w.heap.size, j, none⟩ u) lo m SA sc ss D d done :=
  ⟨h.sep.set (by have := h.glo; show w.heap.size < lo; omega) u, h.low.setCell (Nat.le_refl _) _, h.glo⟩
theorem ValEnd.set1 (h : ValEnd w wr lo m SA sc ss D d done) (j : Nat) (u : Value) : ValEnd w (wr.setCell ⟨w.heap.size + 1, j, none⟩ u) lo m SA sc ss D d done :=
  ⟨h.sep.set (by have := h.glo; show w.heap.size + 1 < lo; omega) u, h.low.setCell (by show w.heap.size ≤ w.heap.size + 1; omega) _, h.glo⟩
theorem ValEnd.fin (h : ValEnd w wr lo m SA sc ss D d done) (h1 : 1 ≤ ss.length) (h6 : ss.length ≤ 6) (hsm : ∀ s ∈ ss, (1 ≤ s.name.size ∧ s.name.size ≤ 6) ∧ s.after.length ≤ 4 ∧ ∀ x ∈ s.after, x.size ≤ 6) (hl : done.length ≤ 7) (hx : ∀ x ∈ done, x.size ≤ 6) : BothTop w wr SA sc ss D d done ∧ Below w.heap.size w wr :=
  ⟨⟨h.sep.sts.here, h.sep.own.strs, h1, h6, hsm, hl, hx⟩, h.low⟩
end

set_option maxHeartbeats 2000000 in
theorem drawRunValid_any (A : Option Addr) (c : Nat) (zs : List Int) (w : World) (h : Byts w w.heap.size A c zs) :
    Calls Try.prog 37 #[.slice A zs.length c] w (DrawnBothTop w) := by
  have y1 : FlowBox ((w.alloc (.cells #[.int .i64 0, .slice none 0 0] 25)).alloc (.cells #[.int .i64 0, .slice none 0 0] 52)) w.heap.size (.int .i64 0) (.slice none 0 0) := (Below.heap_alloc _ _ _ (by simp)).trans (FlowBox.new w _ _)
  have y2 : RBox ((w.alloc (.cells #[.int .i64 0, .slice none 0 0] 25)).alloc (.cells #[.int .i64 0, .slice none 0 0] 52)) (w.heap.size + 1) (.int .i64 0) (.slice none 0 0) := RBox.new_at _ _ _ (by simp)
  have b0 : Below w.heap.size w ((w.alloc (.cells #[.int .i64 0, .slice none 0 0] 25)).alloc (.cells #[.int .i64 0, .slice none 0 0] 52)) := ((Below.refl _ _).alloc (Nat.le_refl _) _).alloc (by simp) _
  have hs0 : ((w.alloc (.cells #[.int .i64 0, .slice none 0 0] 25)).alloc (.cells #[.int .i64 0, .slice none 0 0] 52)).heap.size = w.heap.size + 2 := by simp
  go_enter Try.func37, Try.ntmps37
  go_wp2_with fail
  (with_reducible refine (open_any w.heap.size A c zs _ ((h.alloc (Nat.le_refl _) _).alloc (by simp) _) (by simp; omega)).mono ?_)
  rintro e w1 ⟨zs, rfl, hr1, hb1, hz1⟩
  have z1 : FlowBox w1 w.heap.size (.int .i64 0) (.slice none 0 0) := (hb1.block _ y1.lt).trans y1
  have z2 := y2.then_ hb1
  have b1 := bthen b0 hb1
  rw [hs0] at hr1 hz1
  clear y1 y2 hb1 b0 hs0
  go_wp2_with fail
  (with_reducible refine (l91Both_sep w.heap.size (w.heap.size + 2) A c zs 0 w1 hr1 (by omega)).mono ?_)
  rintro e w2 ⟨ver, SA, sc, ss, st, D, d, done, p2, m, rfl, hB, hp2, hsep⟩
  have hgl1 := hr1.lt
  have hz12 := hB.grown.size
  have u1 := z1.keepG hB.grown (by omega)
  have u2 := z2.keep_ hB.grown (by omega)
  have hb2 : Below w.heap.size w w2 := b1.trans (grown_below hB.grown (by omega) (by omega))
  have h1 := hB.one
  have h6 := hB.six
  have Hsm := Lib.hid hB.small
  have hl7 := hB.len
  have Hx := Lib.hid hB.sizes
  have hbA : Below w2.heap.size w2 ((w2.alloc (.cells #[.int .i64 ver, .slice SA ss.length sc] 25)).alloc (.cells #[.int .i64 st, .slice D done.length d] 52)) := ((Below.refl _ _).alloc (Nat.le_refl _) _).alloc (by simp) _
  have hdb : ∀ q, D = some q → q.block < w2.heap.size := fun q e => by subst e; exact (hsep.own.1.lt q.block rfl).2
  have N3 : ValMid w A c zs ver SA sc ss st D d done w2.heap.size (w1.heap.size + 2) m ((w2.alloc (.cells #[.int .i64 ver, .slice SA ss.length sc] 25)).alloc (.cells #[.int .i64 st, .slice D done.length d] 52)) p2 :=
    ⟨hsep.grown (g := w.heap.size + 2) (below_grown hbA) (by omega), hB.rd.below hbA hB.rd.lt, bthen hb2 hbA, (Below.heap_alloc _ _ _ (by simp)).trans (FlowBox.new w2 _ _), RBox.new_at _ _ _ (by simp), (hbA.block _ u1.lt).trans u1, u2.then_ hbA, by omega, hsep.hi, hdb⟩
  have hd1 := hsep.own.strs.len
  have hd2 := hsep.own.strs.cap
  clear hB u1 u2 z1 z2 b1 hr1 hsep hb2 hbA hdb
  obtain ⟨a0, a1⟩ := N3.f5.cells
  obtain ⟨c0, c1⟩ := N3.r6.cells
  have cf := fun i => N3.r6.free i
  go_wp2_with fail
  (with_reducible refine (pick_any w.heap.size (w.heap.size + 2) A c zs p2 _ _ N3.rd (by omega)).mono ?_)
  rintro e w3 ⟨v, rfl, hv0, hv1, hr3, hg3⟩
  have hne0 : ∀ i j, (⟨w.heap.size, i, none⟩ : Addr) ≠ ⟨w2.heap.size, j, none⟩ := fun i j e => by injection e with e; omega
  have Hne0 := Lib.hid hne0
  clear hne0
  have hne1 : ∀ i j, (⟨w.heap.size + 1, i, none⟩ : Addr) ≠ ⟨w2.heap.size, j, none⟩ := fun i j e => by injection e with e; omega
  have Hne1 := Lib.hid hne1
  clear hne1
  have hne2 : ∀ i j, (⟨w.heap.size, i, none⟩ : Addr) ≠ ⟨w2.heap.size + 1, j, none⟩ := fun i j e => by injection e with e; omega
  have Hne2 := Lib.hid hne2
  clear hne2
  have hne3 : ∀ i j, (⟨w.heap.size + 1, i, none⟩ : Addr) ≠ ⟨w2.heap.size + 1, j, none⟩ := fun i j e => by injection e with e; omega
  have Hne3 := Lib.hid hne3
  clear hne3
  by_cases hv : v = 0
  · obtain rfl : v = 0 := hv
    have N4 := N3.after hr3 hg3
    clear N3 hr3 hg3 hv0 hv1 a0 a1 c0 c1 cf
    obtain ⟨a0, a1⟩ := N4.f5.cells
    obtain ⟨c0, c1⟩ := N4.r6.cells
    have cf := fun i => N4.r6.free i
    go_wp2_with fail
    (with_reducible refine (pick_any w.heap.size (w.heap.size + 2) A c zs (p2 + 1) _ _ N4.rd (by omega)).mono ?_)
    rintro e w4 ⟨v4, rfl, hv40, hv41, hr4, hg4⟩
    have N5 := N4.after hr4 hg4
    have N6 := N5.setSt v4
    clear N4 hr4 hg4 hv40 hv41 a0 a1 c0 c1 cf
    obtain ⟨c0, c1⟩ := N5.r6.cells
    have cf := fun i => N5.r6.free i
    clear N5
    go_wp2_with fail
    (with_reducible refine (pick_any w.heap.size (w.heap.size + 2) A c zs (p2 + 1 + 1) _ _ N6.rd (by omega)).mono ?_)
    rintro e w5 ⟨v5, rfl, hv50, hv51, hr5, hg5⟩
    have N7 := N6.after hr5 hg5
    clear N6 hr5 hg5 hv50 hv51 c0 c1 cf
    obtain ⟨b0_, b1_⟩ := N7.f5.cells
    obtain ⟨d0_, d1_⟩ := N7.r6.cells
    by_cases hq : ¬ v5 = 0
    · have hv8 : decide (v5 = 0) = false := decide_eq_false hq
      have E0 := N7.end_
      obtain ⟨x0, x1⟩ := N7.f5.cells
      obtain ⟨y0, y1⟩ := N7.r6.cells
      obtain ⟨ra0, ra1⟩ := N7.f0.cells
      obtain ⟨rc0, rc1⟩ := N7.r0.cells
      have raf := fun i => N7.f0.free i
      have rcf := fun i => N7.r0.free i
      have hn0 := Hne0.out
      have hn1 := Hne1.out
      have hn2 := Hne2.out
      have hn3 := Hne3.out
      clear N7
      go_wp2_with fail
      go_region
      all_goals
        go_wp2_with fail
        refine bodyPost_ret (v := .tuple #[.agg #[.int .i64 ver, .slice SA ss.length sc], .agg #[.int .i64 v4, .slice D done.length d]]) (by simp [results, Try.results37, go_sem, ra0, ra1, rc0, rc1]) rfl ?_
        refine ⟨ver, SA, sc, ss, v4, D, d, done, rfl, ValEnd.fin (lo := w1.heap.size + 2) (m := m) ?_ h1 h6 Hsm.out hl7 Hx.out⟩
        repeat (first | exact E0 | refine ValEnd.drew ?_ | refine ValEnd.set0 ?_ _ _ | refine ValEnd.set1 ?_ _ _)
    · obtain rfl : v5 = 0 := Decidable.not_not.1 hq
      clear hq
      by_cases h2 : 1 < done.length
      · have hi2 : (1 : Int) < done.length := by omega
        obtain ⟨b, rfl, hmb, hbw⟩ := N7.sep.own.form (by omega)
        have hb2 : b < w2.heap.size := N7.db _ rfl
        have hx1 : (done[1]'h2).size ≤ 6 := Hx.out _ (List.getElem_mem h2)
        obtain ⟨X, hX⟩ : ∃ X, X = done[1]'h2 := ⟨_, rfl⟩
        rw [← hX] at hx1
        have hcD := N7.sep.own.1.cells (g := b) rfl 1 (.string X) (by simp [List.getElem?_eq_getElem h2, hX])
        have hi0 : 0 < done.length := by omega
        have hcE := N7.sep.own.1.cells (g := b) rfl 0 (.string (done[0]'hi0)) (by simp [List.getElem?_eq_getElem hi0])
        have hcE' : w5.cell? ⟨b, 0, none⟩ = some (.string (done[0]'hi0)) := by simpa [Addr.add] using hcE
        clear hcE
        have hcD' : w5.cell? ⟨b, 1, none⟩ = some (.string X) := by simpa [Addr.add] using hcD
        have dfz := fun i => N7.sep.own.1.frozenAt i
        have N6 := (N7.put hmb 0 (x := X) (by omega)).drew
        obtain ⟨dn, hdn⟩ : ∃ dn, dn = done.set 0 X := ⟨_, rfl⟩
        rw [← hdn] at N6
        have hdl : dn.length ≤ 7 := by rw [hdn]; simpa using hl7
        have Hdx : Hid (∀ x ∈ dn, x.size ≤ 6) := Lib.hid (by
          intro x hx
          rw [hdn] at hx
          rcases List.mem_or_eq_of_mem_set hx with hx | rfl
          · exact Hx.out x hx
          · exact hx1)
        have Hhdn := Lib.hid hdn
        have HhX := Lib.hid hX
        clear hdn hX b0_ b1_ d0_
        go_wp2_with fail
        go_region
        clear d1_ dfz hcD hcD' hcE'
        generalize (World.setCell _ ⟨b, 0, none⟩ (.string X)).drew = w6 at *
        have E0 := N6.end_
        obtain ⟨x0, x1⟩ := N6.f5.cells
        obtain ⟨y0, y1⟩ := N6.r6.cells
        obtain ⟨ra0, ra1⟩ := N6.f0.cells
        obtain ⟨rc0, rc1⟩ := N6.r0.cells
        have raf := fun i => N6.f0.free i
        have rcf := fun i => N6.r0.free i
        have hn0 := Hne0.out
        have hn1 := Hne1.out
        have hn2 := Hne2.out
        have hn3 := Hne3.out
        clear N6
        go_wp2_with fail
        go_region
        all_goals
          go_wp2_with fail
          refine bodyPost_ret (v := .tuple #[.agg #[.int .i64 ver, .slice SA ss.length sc], .agg #[.int .i64 v4, .slice (some ⟨b, 0, none⟩) dn.length d]]) (by simp [results, Try.results37, go_sem, ra0, ra1, rc0, rc1]) rfl ?_
          refine ⟨ver, SA, sc, ss, v4, (some ⟨b, 0, none⟩), d, dn, rfl, ValEnd.fin (lo := w1.heap.size + 2) (m := m) ?_ h1 h6 Hsm.out hdl Hdx.out⟩
          repeat (first | exact E0 | refine ValEnd.drew ?_ | refine ValEnd.set0 ?_ _ _ | refine ValEnd.set1 ?_ _ _)
      · have hn2 : decide ((1 : Int) < done.length) = false := decide_eq_false (by omega)
        have E0 := N7.end_
        obtain ⟨x0, x1⟩ := N7.f5.cells
        obtain ⟨y0, y1⟩ := N7.r6.cells
        obtain ⟨ra0, ra1⟩ := N7.f0.cells
        obtain ⟨rc0, rc1⟩ := N7.r0.cells
        have raf := fun i => N7.f0.free i
        have rcf := fun i => N7.r0.free i
        have hn0 := Hne0.out
        have hn1 := Hne1.out
        have hn2 := Hne2.out
        have hn3 := Hne3.out
        clear N7
        go_wp2_with fail
        go_region
        all_goals
          go_wp2_with fail
          refine bodyPost_ret (v := .tuple #[.agg #[.int .i64 ver, .slice SA ss.length sc], .agg #[.int .i64 v4, .slice D done.length d]]) (by simp [results, Try.results37, go_sem, ra0, ra1, rc0, rc1]) rfl ?_
          refine ⟨ver, SA, sc, ss, v4, D, d, done, rfl, ValEnd.fin (lo := w1.heap.size + 2) (m := m) ?_ h1 h6 Hsm.out hl7 Hx.out⟩
          repeat (first | exact E0 | refine ValEnd.drew ?_ | refine ValEnd.set0 ?_ _ _ | refine ValEnd.set1 ?_ _ _)
  · have hv' : decide (v = 0) = false := decide_eq_false hv
    have N4 := N3.after hr3 hg3
    clear N3 hr3 hg3 hv0 hv1 a0 a1 c0 c1 cf
    go_wp2_with fail
    (with_reducible refine (pick_any w.heap.size (w.heap.size + 2) A c zs (p2 + 1) _ _ N4.rd (by omega)).mono ?_)
    rintro e w5 ⟨v5, rfl, hv50, hv51, hr5, hg5⟩
    have N7 := N4.after hr5 hg5
    clear N4 hr5 hg5 hv50 hv51
    obtain ⟨b0_, b1_⟩ := N7.f5.cells
    obtain ⟨d0_, d1_⟩ := N7.r6.cells
    by_cases hq : ¬ v5 = 0
    · have hv8 : decide (v5 = 0) = false := decide_eq_false hq
      have E0 := N7.end_
      obtain ⟨x0, x1⟩ := N7.f5.cells
      obtain ⟨y0, y1⟩ := N7.r6.cells
      obtain ⟨ra0, ra1⟩ := N7.f0.cells
      obtain ⟨rc0, rc1⟩ := N7.r0.cells
      have raf := fun i => N7.f0.free i
      have rcf := fun i => N7.r0.free i
      have hn0 := Hne0.out
      have hn1 := Hne1.out
      have hn2 := Hne2.out
      have hn3 := Hne3.out
      clear N7
      go_wp2_with fail
      go_region
      all_goals
        go_wp2_with fail
        refine bodyPost_ret (v := .tuple #[.agg #[.int .i64 ver, .slice SA ss.length sc], .agg #[.int .i64 st, .slice D done.length d]]) (by simp [results, Try.results37, go_sem, ra0, ra1, rc0, rc1]) rfl ?_
        refine ⟨ver, SA, sc, ss, st, D, d, done, rfl, ValEnd.fin (lo := w1.heap.size + 2) (m := m) ?_ h1 h6 Hsm.out hl7 Hx.out⟩
        repeat (first | exact E0 | refine ValEnd.drew ?_ | refine ValEnd.set0 ?_ _ _ | refine ValEnd.set1 ?_ _ _)
    · obtain rfl : v5 = 0 := Decidable.not_not.1 hq
      clear hq
      by_cases h2 : 1 < done.length
      · have hi2 : (1 : Int) < done.length := by omega
        obtain ⟨b, rfl, hmb, hbw⟩ := N7.sep.own.form (by omega)
        have hb2 : b < w2.heap.size := N7.db _ rfl
        have hx1 : (done[1]'h2).size ≤ 6 := Hx.out _ (List.getElem_mem h2)
        obtain ⟨X, hX⟩ : ∃ X, X = done[1]'h2 := ⟨_, rfl⟩
        rw [← hX] at hx1
        have hcD := N7.sep.own.1.cells (g := b) rfl 1 (.string X) (by simp [List.getElem?_eq_getElem h2, hX])
        have hi0 : 0 < done.length := by omega
        have hcE := N7.sep.own.1.cells (g := b) rfl 0 (.string (done[0]'hi0)) (by simp [List.getElem?_eq_getElem hi0])
        have hcE' : w5.cell? ⟨b, 0, none⟩ = some (.string (done[0]'hi0)) := by simpa [Addr.add] using hcE
        clear hcE
        have hcD' : w5.cell? ⟨b, 1, none⟩ = some (.string X) := by simpa [Addr.add] using hcD
        have dfz := fun i => N7.sep.own.1.frozenAt i
        have N6 := (N7.put hmb 0 (x := X) (by omega)).drew
        obtain ⟨dn, hdn⟩ : ∃ dn, dn = done.set 0 X := ⟨_, rfl⟩
        rw [← hdn] at N6
        have hdl : dn.length ≤ 7 := by rw [hdn]; simpa using hl7
        have Hdx : Hid (∀ x ∈ dn, x.size ≤ 6) := Lib.hid (by
          intro x hx
          rw [hdn] at hx
          rcases List.mem_or_eq_of_mem_set hx with hx | rfl
          · exact Hx.out x hx
          · exact hx1)
        have Hhdn := Lib.hid hdn
        have HhX := Lib.hid hX
        clear hdn hX b0_ b1_ d0_
        go_wp2_with fail
        go_region
        clear d1_ dfz hcD hcD' hcE'
        generalize (World.setCell _ ⟨b, 0, none⟩ (.string X)).drew = w6 at *
        have E0 := N6.end_
        obtain ⟨x0, x1⟩ := N6.f5.cells
        obtain ⟨y0, y1⟩ := N6.r6.cells
        obtain ⟨ra0, ra1⟩ := N6.f0.cells
        obtain ⟨rc0, rc1⟩ := N6.r0.cells
        have raf := fun i => N6.f0.free i
        have rcf := fun i => N6.r0.free i
        have hn0 := Hne0.out
        have hn1 := Hne1.out
        have hn2 := Hne2.out
        have hn3 := Hne3.out
        clear N6
        go_wp2_with fail
        go_region
        all_goals
          go_wp2_with fail
          refine bodyPost_ret (v := .tuple #[.agg #[.int .i64 ver, .slice SA ss.length sc], .agg #[.int .i64 st, .slice (some ⟨b, 0, none⟩) dn.length d]]) (by simp [results, Try.results37, go_sem, ra0, ra1, rc0, rc1]) rfl ?_
          refine ⟨ver, SA, sc, ss, st, (some ⟨b, 0, none⟩), d, dn, rfl, ValEnd.fin (lo := w1.heap.size + 2) (m := m) ?_ h1 h6 Hsm.out hdl Hdx.out⟩
          repeat (first | exact E0 | refine ValEnd.drew ?_ | refine ValEnd.set0 ?_ _ _ | refine ValEnd.set1 ?_ _ _)
      · have hn2 : decide ((1 : Int) < done.length) = false := decide_eq_false (by omega)
        have E0 := N7.end_
        obtain ⟨x0, x1⟩ := N7.f5.cells
        obtain ⟨y0, y1⟩ := N7.r6.cells
        obtain ⟨ra0, ra1⟩ := N7.f0.cells
        obtain ⟨rc0, rc1⟩ := N7.r0.cells
        have raf := fun i => N7.f0.free i
        have rcf := fun i => N7.r0.free i
        have hn0 := Hne0.out
        have hn1 := Hne1.out
        have hn2 := Hne2.out
        have hn3 := Hne3.out
        clear N7
        go_wp2_with fail
        go_region
        all_goals
          go_wp2_with fail
          refine bodyPost_ret (v := .tuple #[.agg #[.int .i64 ver, .slice SA ss.length sc], .agg #[.int .i64 st, .slice D done.length d]]) (by simp [results, Try.results37, go_sem, ra0, ra1, rc0, rc1]) rfl ?_
          refine ⟨ver, SA, sc, ss, st, D, d, done, rfl, ValEnd.fin (lo := w1.heap.size + 2) (m := m) ?_ h1 h6 Hsm.out hl7 Hx.out⟩
          repeat (first | exact E0 | refine ValEnd.drew ?_ | refine ValEnd.set0 ?_ _ _ | refine ValEnd.set1 ?_ _ _)
end Go.Proofs.Ytfkjcldaclkkaaa
