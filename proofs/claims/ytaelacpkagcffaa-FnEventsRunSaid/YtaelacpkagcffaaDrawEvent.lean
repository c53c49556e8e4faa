/- Contracts of the draws of an event: l91Event, DrawEventRun. Condition: the place is small. -/
import Derived.Test.YtaelacpkagcffaaDrawRuns
import Derived.Test.YtaelacpkagcffaaEvPlain
namespace Go.Proofs.Ytaelacpkagcffaa
set_option linter.unusedVariables false
set_option maxRecDepth 100000
open Go.RowKit

/-- An event's box, known whole. -/
def EBox (w : World) (b : Nat) (x y : Value) : Prop := w.heap[b]? = some (.cells #[x, y] 41 (0, 0))
section
variable {w w' : World} {b g : Nat} {x y : Value}
theorem EBox.new (w : World) (x y : Value) : EBox (w.alloc (.cells #[x, y] 41)) w.heap.size x y := heap_alloc_new w _
theorem EBox.new_at (w : World) (x y : Value) {n : Nat} (h : w.heap.size = n) : EBox (w.alloc (.cells #[x, y] 41)) n x y := h ▸ heap_alloc_new w _
theorem EBox.lt (h : EBox w b x y) : b < w.heap.size := (Array.getElem?_eq_some_iff.1 h).1
theorem EBox.then_ (h : EBox w b x y) (hb : Below w.heap.size w w') : EBox w' b x y := (hb.block b h.lt).trans h
theorem EBox.cells (h : EBox w b x y) : w.cell? ⟨b, 0, none⟩ = some x ∧ w.cell? ⟨b, 1, none⟩ = some y :=
  ⟨by rw [cell_of_row w b 0 _ _ (0, 0) h]; rfl, by rw [cell_of_row w b 1 _ _ (0, 0) h]; rfl⟩
theorem EBox.free (h : EBox w b x y) (i : Nat) : w.frozen? ⟨b, i, none⟩ = false := by unfold EBox at h; simp [World.frozen?, h]
theorem EBox.set0 (h : EBox w b x y) (u : Value) : EBox (w.setCell ⟨b, 0, none⟩ u) b u y := by unfold EBox at h ⊢; simp [World.setCell, Array.getElem?_modify, h]
theorem EBox.set1 (h : EBox w b x y) (u : Value) : EBox (w.setCell ⟨b, 1, none⟩ u) b x u := by unfold EBox at h ⊢; simp [World.setCell, Array.getElem?_modify, h]
theorem EBox.keep_ (h : EBox w b x y) (hg : w.grownBy w' (some g)) (hne : b ≠ g) : EBox w' b x y := (hg.block b h.lt (fun e => hne (by injection e))).trans h
theorem EBox.alloc (h : EBox w b x y) (o : Obj) : EBox (w.alloc o) b x y := (Below.heap_alloc _ _ _ h.lt).trans h
theorem EBox.drew (h : EBox w b x y) : EBox w.drew b x y := h
theorem EBox.far {u : Value} {p : Addr} (h : EBox w b x y) (hne : b ≠ p.block) : EBox (w.setCell p u) b x y := (Below.heap_setCell _ _ _ _ hne).trans h
end
/-- Names stay while only the reader's block and new ones turn. -/
def StrsG (w : World) (g : Nat) (D : Option Addr) (d : Nat) (xs : List ByteArray) : Prop := ∀ w', w.grownBy w' (some g) → Strs w' w'.heap.size D d xs
section
variable {w w' : World} {g d lo : Nat} {D : Option Addr} {xs : List ByteArray}
theorem StrsG.of_ (h : OwnStrs w lo D d xs) (h1 : g < lo) : StrsG w g D d xs := fun _ hg => (own_move h fun k h2 h3 => hg.block k h3 (fun e => by injection e with e; omega)).strs
theorem StrsG.to (h : StrsG w g D d xs) (hg : w.grownBy w' (some g)) : Strs w' w'.heap.size D d xs := h _ hg
theorem StrsG.here (h : StrsG w g D d xs) : Strs w w.heap.size D d xs := h w (World.grownBy.refl w _)
theorem StrsG.go (h : StrsG w g D d xs) (hg : w.grownBy w' (some g)) : StrsG w' g D d xs := fun _ hg2 => h _ (grown_trans hg hg2)
end
/-- What the draw of an event knows between its statements, but for the event. -/
structure EvBase (w : World) (B g : Nat) (A : Option Addr) (c : Nat) (zs : List Int) (ver : Int) (SA : Option Addr) (sc : Nat) (ss : List St) (st : Int) (D : Option Addr) (d : Nat) (done : List ByteArray) (wr : World) (p : Nat) : Prop where
  rd : Rdr wr B g A c zs p
  flow : FlowBox wr w.heap.size (.int .i64 ver) (.slice SA ss.length sc)
  run : RBox wr (w.heap.size + 1) (.int .i64 st) (.slice D done.length d)
  res : EBox wr (w.heap.size + 2) (.int .i64 0) (.string ⟨#[]⟩)
  grown : w.grownBy wr (some g)
  gl : g < w.heap.size
/-- .. and the event, in block eb. -/
structure EvSt (w : World) (B g : Nat) (A : Option Addr) (c : Nat) (zs : List Int) (ver : Int) (SA : Option Addr) (sc : Nat) (ss : List St) (st : Int) (D : Option Addr) (d : Nat) (done : List ByteArray) (eb : Nat) (wr : World) (p : Nat) (kd : Int) (nm : ByteArray) : Prop where
  base : EvBase w B g A c zs ver SA sc ss st D d done wr p
  ev : EBox wr eb (.int .i64 kd) (.string nm)
  el : w.heap.size + 2 < eb
section
variable {w wr w' : World} {B g : Nat} {A : Option Addr} {c : Nat} {zs : List Int} {ver : Int} {SA : Option Addr} {sc : Nat} {ss : List St} {st : Int} {D : Option Addr} {d : Nat} {done : List ByteArray} {eb p p' : Nat} {kd : Int} {nm : ByteArray}
theorem EvBase.after (s : EvBase w B g A c zs ver SA sc ss st D d done wr p) (hr : Rdr w' B g A c zs p') (hg : wr.grownBy w' (some g)) : EvBase w B g A c zs ver SA sc ss st D d done w' p' :=
  ⟨hr, s.flow.keepG hg (by have := s.gl; omega), s.run.keep_ hg (by have := s.gl; omega), s.res.keep_ hg (by have := s.gl; omega), grown_trans s.grown hg, s.gl⟩
theorem EvBase.set (s : EvBase w B g A c zs ver SA sc ss st D d done wr p) {q : Addr} (hq : w.heap.size + 2 < q.block) (u : Value) : EvBase w B g A c zs ver SA sc ss st D d done (wr.setCell q u) p :=
  ⟨s.rd.far (by have := s.gl; omega) u, (Below.heap_setCell _ _ _ _ (by omega)).trans s.flow, s.run.far (by omega), s.res.far (by omega), grown_set s.grown (by omega) u, s.gl⟩
theorem EvBase.alloc (s : EvBase w B g A c zs ver SA sc ss st D d done wr p) (o : Obj) : EvBase w B g A c zs ver SA sc ss st D d done (wr.alloc o) p := s.after (s.rd.alloc o) (World.grownBy_alloc _ _ _)
theorem EvBase.below_ (s : EvBase w B g A c zs ver SA sc ss st D d done wr p) (hb : Below wr.heap.size wr w') : EvBase w B g A c zs ver SA sc ss st D d done w' p := s.after (s.rd.below hb s.rd.lt) (below_grown hb)
theorem EvSt.after (s : EvSt w B g A c zs ver SA sc ss st D d done eb wr p kd nm) (hr : Rdr w' B g A c zs p') (hg : wr.grownBy w' (some g)) : EvSt w B g A c zs ver SA sc ss st D d done eb w' p' kd nm :=
  ⟨s.base.after hr hg, s.ev.keep_ hg (by have := s.base.gl; have := s.el; omega), s.el⟩
theorem EvSt.alloc (s : EvSt w B g A c zs ver SA sc ss st D d done eb wr p kd nm) (o : Obj) : EvSt w B g A c zs ver SA sc ss st D d done eb (wr.alloc o) p kd nm := s.after (s.base.rd.alloc o) (World.grownBy_alloc _ _ _)
theorem EvSt.below_ (s : EvSt w B g A c zs ver SA sc ss st D d done eb wr p kd nm) (hb : Below wr.heap.size wr w') : EvSt w B g A c zs ver SA sc ss st D d done eb w' p kd nm := s.after (s.base.rd.below hb s.base.rd.lt) (below_grown hb)
theorem EvSt.kind (s : EvSt w B g A c zs ver SA sc ss st D d done eb wr p kd nm) (k : Int) : EvSt w B g A c zs ver SA sc ss st D d done eb (wr.setCell ⟨eb, 0, none⟩ (.int .i64 k)) p k nm :=
  ⟨s.base.set s.el _, s.ev.set0 _, s.el⟩
theorem EvSt.name (s : EvSt w B g A c zs ver SA sc ss st D d done eb wr p kd nm) (n : ByteArray) : EvSt w B g A c zs ver SA sc ss st D d done eb (wr.setCell ⟨eb, 1, none⟩ (.string n)) p kd n :=
  ⟨s.base.set s.el _, s.ev.set1 _, s.el⟩
theorem EvSt.fin (s : EvSt w B g A c zs ver SA sc ss st D d done eb wr p kd nm) (u v : Value) :
    Rdr ((wr.setCell ⟨w.heap.size + 2, 0, none⟩ u).setCell ⟨w.heap.size + 2, 1, none⟩ v) B g A c zs p ∧ w.grownBy ((wr.setCell ⟨w.heap.size + 2, 0, none⟩ u).setCell ⟨w.heap.size + 2, 1, none⟩ v) (some g) := by
  have h1 := s.base.gl
  exact ⟨(s.base.rd.far (q := ⟨w.heap.size + 2, 0, none⟩) (by show g < w.heap.size + 2; omega) u).far (q := ⟨w.heap.size + 2, 1, none⟩) (by show g < w.heap.size + 2; omega) v,
    grown_set (q := ⟨w.heap.size + 2, 1, none⟩) (grown_set (q := ⟨w.heap.size + 2, 0, none⟩) s.base.grown (by show w.heap.size ≤ w.heap.size + 2; omega) u) (by show w.heap.size ≤ w.heap.size + 2; omega) v⟩
theorem EvBase.last (s : EvBase w B g A c zs ver SA sc ss st D d done wr p) (hz : w.heap.size + 2 < wr.heap.size) (kd : Int) (nm : ByteArray) : EvSt w B g A c zs ver SA sc ss st D d done wr.heap.size (wr.alloc (.cells #[.int .i64 kd, .string nm] 41)) p kd nm :=
  ⟨s.alloc _, EBox.new _ _ _, hz⟩
theorem EvBase.early (s : EvBase w B g A c zs ver SA sc ss st D d done wr p) {x y : Value} (bx : EBox wr eb x y) (hz : w.heap.size + 2 < eb) (kd : Int) (nm : ByteArray) : EvSt w B g A c zs ver SA sc ss st D d done eb ((wr.setCell ⟨eb, 0, none⟩ (.int .i64 kd)).setCell ⟨eb, 1, none⟩ (.string nm)) p kd nm :=
  ⟨(s.set hz _).set hz _, (bx.set0 _).set1 _, hz⟩
end
theorem next_small {ver st : Int} {ss : List St} {done : List ByteArray} (h1 : ∀ s ∈ ss, s.name.size ≤ 6) (h2 : ∀ x ∈ done, x.size ≤ 6) : ∀ x ∈ nextOut ver ss st done, x.size ≤ 6 := by
  intro x hx
  unfold nextOut at hx
  split at hx
  · split at hx
    · obtain ⟨s, hs, rfl⟩ := List.mem_map.1 (ready_sub hx)
      exact h1 s hs
    · split at hx
      · simp at hx
        subst hx
        rcases Nat.eq_zero_or_pos done.length with h0 | h0
        · have := List.eq_nil_of_length_eq_zero h0
          subst this
          show (⟨#[]⟩ : ByteArray).size ≤ 6
          decide
        · rw [List.getLast?_eq_getElem?, List.getElem?_eq_getElem (by omega)]
          exact h2 _ (List.getElem_mem _)
      · cases hx
  · cases hx
/-- An event is drawn. -/
def DrawnEv (B g : Nat) (A : Option Addr) (c : Nat) (zs : List Int) (p K : Nat) (w : World) (e : Ending) (w' : World) : Prop :=
  ∃ (kd : Int) (nm : ByteArray) (p' : Nat), e = .returned (.agg #[.int .i64 kd, .string nm]) ∧ nm.size ≤ 6 ∧ p' ≤ p + K ∧ Rdr w' B g A c zs p' ∧ w.grownBy w' (some g)

set_option maxHeartbeats 16000000 in
theorem l91Event_any (B g : Nat) (A : Option Addr) (c : Nat) (zs : List Int) (p : Nat) (ver : Int) (SA : Option Addr) (sc : Nat) (ss : List St) (st : Int) (D : Option Addr) (d : Nat) (done : List ByteArray) (w : World) (h : Rdr w B g A c zs p) (hp : p ≤ 800000) (hf : StsG w g SA sc ss) (hd : StrsG w g D d done) (h1 : 1 ≤ ss.length) (h6 : ss.length ≤ 6) (hsm : Hid (∀ s ∈ ss, s.name.size ≤ 6)) (hx : Hid (∀ x ∈ done, x.size ≤ 6)) :
    Calls Try.prog 72 #[.pointer (some ⟨g, 0, none⟩), flowV ver SA ss.length sc, runV st D done.length d] w (DrawnEv B g A c zs p 10 w) := by
  have hgl := h.lt
  have Hnx := Lib.hid (next_small (ver := ver) (st := st) hsm.out hx.out)
  have y1 : FlowBox (((w.alloc (.cells #[.int .i64 ver, .slice SA ss.length sc] 38)).alloc (.cells #[.int .i64 st, .slice D done.length d] 33)).alloc (.cells #[.int .i64 0, .string ⟨#[]⟩] 41)) w.heap.size (.int .i64 ver) (.slice SA ss.length sc) := (Below.heap_alloc _ _ _ (by simp; omega)).trans ((Below.heap_alloc _ _ _ (by simp)).trans (FlowBox.new w _ _))
  have y2 : RBox (((w.alloc (.cells #[.int .i64 ver, .slice SA ss.length sc] 38)).alloc (.cells #[.int .i64 st, .slice D done.length d] 33)).alloc (.cells #[.int .i64 0, .string ⟨#[]⟩] 41)) (w.heap.size + 1) (.int .i64 st) (.slice D done.length d) := (RBox.new_at _ _ _ (by simp)).alloc _
  have y3 : EBox (((w.alloc (.cells #[.int .i64 ver, .slice SA ss.length sc] 38)).alloc (.cells #[.int .i64 st, .slice D done.length d] 33)).alloc (.cells #[.int .i64 0, .string ⟨#[]⟩] 41)) (w.heap.size + 2) (.int .i64 0) (.string ⟨#[]⟩) := EBox.new_at _ _ _ (by simp)
  have hg0 : w.grownBy (((w.alloc (.cells #[.int .i64 ver, .slice SA ss.length sc] 38)).alloc (.cells #[.int .i64 st, .slice D done.length d] 33)).alloc (.cells #[.int .i64 0, .string ⟨#[]⟩] 41)) (some g) := grown_alloc (grown_alloc (World.grownBy_alloc _ _ _) _) _
  have hr0 := ((h.alloc (.cells #[.int .i64 ver, .slice SA ss.length sc] 38)).alloc (.cells #[.int .i64 st, .slice D done.length d] 33)).alloc (.cells #[.int .i64 0, .string ⟨#[]⟩] 41)
  have hz0 : (((w.alloc (.cells #[.int .i64 ver, .slice SA ss.length sc] 38)).alloc (.cells #[.int .i64 st, .slice D done.length d] 33)).alloc (.cells #[.int .i64 0, .string ⟨#[]⟩] 41)).heap.size = w.heap.size + 3 := by simp
  go_enter Try.func72, Try.ntmps72
  go_upto_region 1 with fail
  generalize ((w.alloc (.cells #[.int .i64 ver, .slice SA ss.length sc] 38)).alloc (.cells #[.int .i64 st, .slice D done.length d] 33)).alloc (.cells #[.int .i64 0, .string ⟨#[]⟩] 41) = W3 at *
  have E0 : EvBase w B g A c zs ver SA sc ss st D d done W3 p := ⟨hr0, y1, y2, y3, hg0, hgl⟩
  go_cut [7] (fun vb wx => ∃ (eb : Nat) (kd : Int) (nm : ByteArray) (p' : Nat), vb = .pointer (some ⟨eb, 0, none⟩) ∧ nm.size ≤ 6 ∧ p' ≤ p + 4 ∧ EvSt w B g A c zs ver SA sc ss st D d done eb wx p' kd nm)
  case first =>
    have Ed : EvBase w B g A c zs ver SA sc ss st D d done W3.drew p := E0.after (hr0.keep fun _ _ => rfl) (by have := World.grownBy.refl W3 (some g); exact ⟨this.os, this.tape, this.output, this.size, this.block⟩)
    have HS := Lib.hid (fun (wx : World) (hg : W3.drew.grownBy wx (some g)) => (Ed.flow.keepG hg (by omega)).cells)
    have KP := Lib.hid (fun (wx : World) (pp : Nat) (hr : Rdr wx B g A c zs pp) (hpp : pp ≤ p + 5) => (pick_any B g A c zs pp 3 wx hr (by omega)).mono fun e w' ⟨v, he, hv0, hv1, hr1, hg1⟩ =>
      (show ∃ q : Nat, q < 3 ∧ e = Ending.returned (.int .i64 (q : Int)) ∧ Rdr w' B g A c zs (pp + 1) ∧ wx.grownBy w' (some g) from ⟨v.toNat, by omega, by rw [he, Int.toNat_of_nonneg hv0], hr1, hg1⟩))
    have KA := Lib.hid (fun (wx : World) (pp : Nat) (hg : W3.drew.grownBy wx (some g)) (hr : Rdr wx B g A c zs pp) (hpp : pp ≤ p + 5) => l91At_any B g A c zs pp ver SA sc ss wx hr (by omega) (hf.go (grown_trans Ed.grown hg)) h1 h6 hsm)
    have g0 : W3.drew.grownBy W3.drew (some g) := World.grownBy.refl _ _
    have gA : W3.drew.grownBy (W3.alloc (.cells #[.int .i64 0, .string ⟨#[]⟩] 41)).drew (some g) := by
      have := World.grownBy_alloc W3 (.cells #[.int .i64 0, .string ⟨#[]⟩] 41) (some g)
      exact ⟨this.os, this.tape, this.output, this.size, this.block⟩
    have rA : Rdr (W3.alloc (.cells #[.int .i64 0, .string ⟨#[]⟩] 41)).drew B g A c zs p := (hr0.alloc _).keep fun _ _ => rfl
    have bxA : EBox (W3.alloc (.cells #[.int .i64 0, .string ⟨#[]⟩] 41)).drew W3.heap.size (.int .i64 0) (.string ⟨#[]⟩) := (EBox.new W3 _ _).drew
    have S0 := HS.out _ g0
    have SA0 := HS.out _ gA
    have hne : g ≠ W3.heap.size := by omega
    have r0 := Ed.rd
    have hlow : w.heap.size < W3.heap.size := by omega
    have hzW : w.heap.size + 2 < W3.heap.size := by omega
    have Hlow := Lib.hid hlow
    have HE := Lib.hid Ed
    have h6w : ∀ s : ByteArray, s.size ≤ 6 → s.size ≤ 9223372036854775807 := fun s h => by omega
    clear hr0 y1 y2 y3 E0 Ed hlow hz0
    go_region_held3 (fun wx => wx.cell? ⟨w.heap.size, 0, none⟩ = some (.int .i64 ver) ∧ wx.cell? ⟨w.heap.size, 1, none⟩ = some (.slice SA ss.length sc))
      (first
        | exact Sb | exact Sa | exact S0 | exact SA0
        | exact And.intro (cell_al Sb.1 _) (cell_al Sb.2 _)
        | exact And.intro (cell_al Sa.1 _) (cell_al Sa.2 _)
        | exact And.intro (cell_al S0.1 _) (cell_al S0.2 _)
        | exact And.intro (cell_st (blk_ne Hlow.out bz) (cell_st (blk_ne Hlow.out bz) Sb.1)) (cell_st (blk_ne Hlow.out bz) (cell_st (blk_ne Hlow.out bz) Sb.2)))
      (first
        | (go_at_call 96; have bx0 := bx; (with_reducible refine (KP.out wa pa hra (by omega)).mono ?_); rintro e wb ⟨q, hq, rfl, hrb, hgb0⟩; have hgb := grown_trans hga hgb0; have bl := bx0.lt; have bx := bx0.keep_ hgb0 (Ne.symm hneb); have bl2 := bx.lt; have bf := fun i => bx.free i; obtain ⟨bc0, bc1⟩ := bx.cells; have Sb := HS.out _ hgb; have hpb : pa + 1 ≤ p + 4 := by omega)
        | (go_at_call 96; (with_reducible refine (KP.out (wa.alloc (.cells #[.int .i64 0, .string ⟨#[]⟩] 41)) pa (hra.alloc _) (by omega)).mono ?_); rintro e wb ⟨q, hq, rfl, hrb, hgb0⟩; have hgb := grown_trans (grown_alloc hga _) hgb0; have bz : W3.heap.size ≤ wa.heap.size := hga.size; have bx := (EBox.new wa (.int .i64 0) (.string ⟨#[]⟩)).keep_ hgb0 (by omega); have bl2 := bx.lt; have bf := fun i => bx.free i; obtain ⟨bc0, bc1⟩ := bx.cells; have Sb := HS.out _ hgb; have hpb : pa + 1 ≤ p + 4 := by omega)
        | (go_at_call 96; (with_reducible refine (KP.out wa pa hra (by omega)).mono ?_); rintro e wb ⟨q, hq, rfl, hrb, hgb0⟩; have hgb := grown_trans hga hgb0; have Sb := HS.out _ hgb; have hpb : pa + 1 ≤ p + 4 := by omega)
        | (go_at_call 97; have bx0 := bx; (with_reducible refine (KA.out wa pa hga hra (by omega)).mono ?_); rintro e wb ⟨s, pb, rfl, hs, hpb0, hrb, hgb0⟩; have hgb := grown_trans hga hgb0; have bl := bx0.lt; have bx := bx0.keep_ hgb0 (Ne.symm hneb); have bl2 := bx.lt; have bf := fun i => bx.free i; obtain ⟨bc0, bc1⟩ := bx.cells; have Sb := HS.out _ hgb; have hpb : pb ≤ p + 4 := by omega)
        | (go_at_call 97; (with_reducible refine (KA.out (wa.alloc (.cells #[.int .i64 0, .string ⟨#[]⟩] 41)) pa (grown_alloc hga _) (hra.alloc _) (by omega)).mono ?_); rintro e wb ⟨s, pb, rfl, hs, hpb0, hrb, hgb0⟩; have hgb := grown_trans (grown_alloc hga _) hgb0; have bz : W3.heap.size ≤ wa.heap.size := hga.size; have bx := (EBox.new wa (.int .i64 0) (.string ⟨#[]⟩)).keep_ hgb0 (by omega); have bl2 := bx.lt; have bf := fun i => bx.free i; obtain ⟨bc0, bc1⟩ := bx.cells; have Sb := HS.out _ hgb; have hpb : pb ≤ p + 4 := by omega)
        | (go_at_call 97; (with_reducible refine (KA.out wa pa hga hra (by omega)).mono ?_); rintro e wb ⟨s, pb, rfl, hs, hpb0, hrb, hgb0⟩; have hgb := grown_trans hga hgb0; have Sb := HS.out _ hgb; have hpb : pb ≤ p + 4 := by omega)
        | (go_at_call 96; (with_reducible refine (KP.out (W3.alloc (.cells #[.int .i64 0, .string ⟨#[]⟩] 41)).drew p rA (by omega)).mono ?_); rintro e wa ⟨q, hq, rfl, hra, hga0⟩; have hga := grown_trans gA hga0; have bx := bxA.keep_ hga0 (Ne.symm hne); have hneb := hne; have bz := Nat.le_refl W3.heap.size; have Sa := HS.out _ hga; obtain ⟨pa, hpa, hra⟩ : ∃ pa, pa ≤ p + 1 ∧ Rdr wa B g A c zs pa := ⟨p + 1, by omega, hra⟩)
        | (go_at_call 96; (with_reducible refine (KP.out W3.drew p r0 (by omega)).mono ?_); rintro e wa ⟨q, hq, rfl, hra, hga0⟩; have hga := hga0; have Sa := HS.out _ hga; obtain ⟨pa, hpa, hra⟩ : ∃ pa, pa ≤ p + 1 ∧ Rdr wa B g A c zs pa := ⟨p + 1, by omega, hra⟩)
        | (go_at_call 97; (with_reducible refine (KA.out (W3.alloc (.cells #[.int .i64 0, .string ⟨#[]⟩] 41)).drew p gA rA (by omega)).mono ?_); rintro e wa ⟨s, pa, rfl, hs, hpa, hra, hga0⟩; have hga := grown_trans gA hga0; have bx := bxA.keep_ hga0 (Ne.symm hne); have hneb := hne; have bz := Nat.le_refl W3.heap.size; have Sa := HS.out _ hga)
        | (go_at_call 97; (with_reducible refine (KA.out W3.drew p g0 r0 (by omega)).mono ?_); rintro e wa ⟨s, pa, rfl, hs, hpa, hra, hga0⟩; have hga := hga0; have Sa := HS.out _ hga))
    all_goals
      have hzb : W3.heap.size ≤ wb.heap.size := hgb.size
      have hzb2 : w.heap.size + 2 < wb.heap.size := by omega
      have Eb := HE.out.after hrb hgb
      go_wp2_with fail
      go_meet
      first
        | exact ⟨_, _, _, _, rfl, hs, hpb, Eb.early bx (by omega) _ _⟩
        | exact ⟨_, _, _, _, rfl, hs, hpb, Eb.last hzb2 _ _⟩
  case rest =>
    obtain ⟨w4, rfl⟩ : ∃ w4 : World, w4 = wc := ⟨_, rfl⟩
    obtain ⟨eb, kd, nm, p4, rfl, hnm, hp4, E4⟩ := hcut
    clear hr0 y1 y2 y3 hg0 hz0 E0
    obtain ⟨f0, f1⟩ := E4.base.flow.cells
    obtain ⟨r0, r1⟩ := E4.base.run.cells
    have hst4 := hf.to E4.base.grown
    have hdn4 := hd.to E4.base.grown
    go_wp2_with fail
    (with_reducible refine (sRunNext_any ver st SA D sc d ss done w4 _ _ hst4 hdn4 (by omega)).mono ?_)
    rintro e w5 ⟨A9, c9, rfl, ho9, hb9⟩
    have E5 := E4.below_ hb9
    have X5 : StrsG w5 g A9 c9 (nextOut ver ss st done) := StrsG.of_ ho9 E4.base.rd.lt
    clear f0 f1 r0 r1 E4 hst4 hdn4 hb9 ho9
    generalize nextOut ver ss st done = xs at *
    have hxl := X5.here.len
    have hxc := X5.here.cap
    go_upto_region 3 with fail
    go_cut [26] (fun vb wx => ∃ (bb : Bool) (p' : Nat), vb = .bool bb ∧ (bb = true → 0 < xs.length) ∧ p' ≤ p4 + 1 ∧ EvSt w B g A c zs ver SA sc ss st D d done eb wx p' kd nm ∧ w5.grownBy wx (some g))
    case first =>
      rcases Nat.eq_zero_or_pos xs.length with h0 | h0
      · obtain rfl : xs = [] := List.eq_nil_of_length_eq_zero h0
        have hd0 : decide ((0 : Int) < 0) = false := by simp
        clear h0
        go_wp2_with fail
        go_meet
        exact ⟨false, p4, rfl, by simp, by omega, E5, World.grownBy.refl _ _⟩
      · have hx0 : (0 : Int) < xs.length := by omega
        have hxd : decide ((0 : Int) < xs.length) = true := decide_eq_true hx0
        go_wp2_with fail
        (with_reducible refine (pick_any B g A c zs p4 _ _ E5.base.rd (by omega)).mono ?_)
        rintro e w6 ⟨v, rfl, hv0, hv1, hr6, hg6⟩
        have E6 := E5.after hr6 hg6
        by_cases hv : 0 < v
        · have hvd : decide (0 < v) = true := decide_eq_true hv
          go_wp2_with fail
          go_meet
          exact ⟨true, p4 + 1, rfl, fun _ => h0, by omega, E6, hg6⟩
        · have hv' : decide (0 < v) = false := decide_eq_false hv
          go_wp2_with fail
          go_meet
          exact ⟨false, p4 + 1, rfl, by simp, by omega, E6, hg6⟩
    case rest =>
      obtain ⟨w6, rfl⟩ : ∃ w6 : World, w6 = wc := ⟨_, rfl⟩
      obtain ⟨bb, p6, rfl, hbb, hp6, E6, hg6⟩ := hcut
      clear E5
      cases bb
      case' false =>
        go_wp2_with fail
        (with_reducible refine (pick_any B g A c zs p6 _ _ E6.base.rd (by omega)).mono ?_)
        rintro e w12 ⟨v12, rfl, hv120, hv121, hr12, hg12⟩
        obtain ⟨kz, nz, p12, hn12, hp12, E12⟩ : ∃ kz nz p12, nz.size ≤ 6 ∧ p12 ≤ p + 9 ∧ EvSt w B g A c zs ver SA sc ss st D d done eb w12 p12 kz nz := ⟨_, _, _, hnm, by omega, E6.after hr12 hg12⟩
        clear E6 hr12 hg12 hg6 hbb
      case' true =>
        have hx0 := hbb rfl
        have hx1 : (0 : Int) < xs.length := by omega
        go_wp2_with fail
        (with_reducible refine (pick_any B g A c zs p6 _ _ E6.base.rd (by omega)).mono ?_)
        rintro e w7 ⟨v7, rfl, hv70, hv71, hr7, hg7⟩
        obtain ⟨m, rfl⟩ := Int.eq_ofNat_of_zero_le hv70
        have hm : m < xs.length := by omega
        obtain ⟨ad9, rfl, had9, hc9⟩ := (X5.to (grown_trans hg6 hg7)).at_ hm
        have hXs := Hnx.out _ (List.getElem_mem hm)
        obtain ⟨X, hX⟩ : ∃ X, X = xs[m] := ⟨_, rfl⟩
        rw [← hX] at hc9 hXs
        have E7 := E6.after hr7 hg7
        obtain ⟨v0, v1⟩ := E7.ev.cells
        have vf := fun i => E7.ev.free i
        have hel := E7.ev.lt
        have E8 := E7.name X
        have hm0 : (0 : Int) ≤ m := by omega
        have hm1 : (m : Int) < xs.length := by omega
        clear E6 hr7 hg7 hX hg6 hbb
        go_wp2_with fail
        (with_reducible refine (pick_any B g A c zs (p6 + 1) _ _ E8.base.rd (by omega)).mono ?_)
        rintro e w9 ⟨v9, rfl, hv90, hv91, hr9, hg9⟩
        have E9 := E8.after hr9 hg9
        clear v0 v1 vf hel E7 E8 hr9 hg9 hc9
        obtain ⟨v0, v1⟩ := E9.ev.cells
        have vf := fun i => E9.ev.free i
        have hel := E9.ev.lt
        obtain ⟨q0, q1⟩ := E9.base.run.cells
        have hrl := E9.base.run.lt
        have hne1 : ∀ i j, (⟨w.heap.size + 1, i, none⟩ : Addr) ≠ ⟨eb, j, none⟩ := fun i j e => by injection e with e; have := E9.el; omega
        have hne2 : w.heap.size + 1 ≠ eb := by have := E9.el; omega
        have q0' := fun u => (E9.base.set (q := ⟨eb, 0, none⟩) E9.el u).run.cells.1
        by_cases hs1 : st = 1
        case' pos =>
          have e1 : (st == 1) = true := beq_iff_eq.2 hs1
          clear hs1
          go_wp2_with fail
          (with_reducible refine (pick_any B g A c zs (p6 + 1 + 1) _ _ ((E9.kind _).kind 3).base.rd (by omega)).mono ?_)
          rintro e w12 ⟨v12, rfl, hv120, hv121, hr12, hg12⟩
          obtain ⟨kz, nz, p12, hn12, hp12, E12⟩ : ∃ kz nz p12, nz.size ≤ 6 ∧ p12 ≤ p + 9 ∧ EvSt w B g A c zs ver SA sc ss st D d done eb w12 p12 kz nz := ⟨_, _, _, hXs, by omega, ((E9.kind _).kind 3).after hr12 hg12⟩
        case' neg =>
          have e1 : (st == 1) = false := beq_eq_false_iff_ne.2 hs1
          clear hs1
          go_wp2_with fail
          (with_reducible refine (pick_any B g A c zs (p6 + 1 + 1) _ _ (E9.kind _).base.rd (by omega)).mono ?_)
          rintro e w12 ⟨v12, rfl, hv120, hv121, hr12, hg12⟩
          obtain ⟨kz, nz, p12, hn12, hp12, E12⟩ : ∃ kz nz p12, nz.size ≤ 6 ∧ p12 ≤ p + 9 ∧ EvSt w B g A c zs ver SA sc ss st D d done eb w12 p12 kz nz := ⟨_, _, _, hXs, by omega, (E9.kind _).after hr12 hg12⟩
        all_goals clear v0 v1 vf hel q0 q1 q0' hrl hne1 hne2 E9 hr12 hg12
      all_goals
        obtain ⟨v0, v1⟩ := E12.ev.cells
        have vf := fun i => E12.ev.free i
        have hel := E12.ev.lt
        obtain ⟨x0, x1⟩ := E12.base.res.cells
        have xf := fun i => E12.base.res.free i
        have hxl := E12.base.res.lt
        by_cases hv : v12 = 0
        · subst hv
          go_wp2_with fail
          (with_reducible refine (pick_any B g A c zs p12 _ _ (E12.alloc _).base.rd (by omega)).mono ?_)
          rintro e w13 ⟨v13, rfl, hv130, hv131, hr13, hg13⟩
          have E13 := (E12.alloc _).after hr13 hg13
          have hlit := Cell2.new w12 (.int .i64 0) (.int .i64 4) 3
          have hne : (⟨w12.heap.size, 0, none⟩ : Addr).block ≠ g := by show w12.heap.size ≠ g; have := E12.base.rd.lt; omega
          have l0 := hg13.cell hlit.c0 (fun e => by injection e with e; exact hne e)
          have l1 := hg13.cell hlit.c1 (fun e => by injection e with e; exact hne e)
          clear v0 v1 vf hel x0 x1 xf hxl hlit E12 hr13 hg13
          obtain ⟨v0, v1⟩ := E13.ev.cells
          have vf := fun i => E13.ev.free i
          have hel := E13.ev.lt
          obtain ⟨x0, x1⟩ := E13.base.res.cells
          have xf := fun i => E13.base.res.free i
          have hxl := E13.base.res.lt
          have hneb : w.heap.size + 2 ≠ eb := by have := E13.el; omega
          rcases (show v13 = 0 ∨ v13 = 1 by omega) with rfl | rfl
          · obtain ⟨z1, z2⟩ := (E13.kind 0).fin (.int .i64 0) (.string nz)
            go_wp2_with fail
            refine bodyPost_ret (v := .agg #[.int .i64 0, .string nz]) (by simp [results, Try.results72, go_sem, x0, x1]) rfl ?_
            exact ⟨0, nz, p12 + 1, rfl, hn12, by omega, z1, z2⟩
          · obtain ⟨z1, z2⟩ := (E13.kind 4).fin (.int .i64 4) (.string nz)
            go_wp2_with fail
            refine bodyPost_ret (v := .agg #[.int .i64 4, .string nz]) (by simp [results, Try.results72, go_sem, x0, x1]) rfl ?_
            exact ⟨4, nz, p12 + 1, rfl, hn12, by omega, z1, z2⟩
        · have e0 : (v12 == 0) = false := beq_eq_false_iff_ne.2 hv
          obtain ⟨z1, z2⟩ := E12.fin (.int .i64 kz) (.string nz)
          clear hv
          go_wp2_with fail
          refine bodyPost_ret (v := .agg #[.int .i64 kz, .string nz]) (by simp [results, Try.results72, go_sem, x0, x1]) rfl ?_
          exact ⟨kz, nz, p12, rfl, hn12, by omega, z1, z2⟩
end Go.Proofs.Ytaelacpkagcffaa
