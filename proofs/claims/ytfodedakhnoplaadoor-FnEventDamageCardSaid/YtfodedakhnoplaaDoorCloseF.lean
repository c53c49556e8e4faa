/- How a law's contract closes its row where the row lists package variables: what the listed variables give, a world that meets the condition, the row's post. No condition. -/
import Derived.Test.YtfodedakhnoplaaDoorTextEv
import Derived.Test.YtfodedakhnoplaaDoorLaw
import Derived.LaidMore
import Derived.LaidLaws
import Derived.LaidHandle
import Derived.OpenVars
import Derived.ChangeVars
import Derived.Stop.Joined
import Derived.Lib.LaidTab
namespace Go.Proofs.YtfodedakhnoplaaDoor
set_option linter.unusedVariables false
set_option maxRecDepth 100000
open Go.ChangeShapes Go.WideShapes Go.ChangeAt Go.RowKit

noncomputable def laidF : List (String × DataW Unit) := Rows.fnExactEventTextRow.laid
theorem gPow : Tryd.prog.globalNamed "internal/strconv.uint64pow10" = some 3 := by kernel_rfl
theorem gWords : Tryd.prog.globalNamed "loop.example/sagaflows/impl.eventWords" = some 0 := by kernel_rfl
theorem tPow : (Tryd.prog.globals[3]?).map (·.type) = some 98 := by kernel_rfl
theorem tWords : (Tryd.prog.globals[0]?).map (·.type) = some 47 := by kernel_rfl

/-- What the condition gives the walks. -/
theorem laidF_of {W : World} (h : laidMetH Tryd.prog laidF W) : LaidF W.heap.size W := by
  unfold laidF at h
  rw [MakeChecks.laidMetH_plain _ _ _ (by kernel_rfl)] at h
  obtain ⟨ps, ⟨g0, t0, cs0, f0, p0, q0, hg0, ht0, hv0, hd0, ⟨g1, t1, cs1, f1, p1, q1, hg1, ht1, hv1, hd1, ⟨g2, t2, cs2, f2, p2, q2, hg2, ht2, hv2, hd2, ⟨g3, t3, cs3, f3, p3, q3, hg3, ht3, hv3, hd3, _, _⟩, _⟩, _⟩, _⟩, _, _⟩ := h
  obtain rfl := Option.some.inj (gPow.symm.trans hg2)
  obtain rfl := Option.some.inj (tPow.symm.trans ht2)
  obtain rfl := Option.some.inj (gWords.symm.trans hg3)
  obtain rfl := Option.some.inj (tWords.symm.trans ht3)
  refine ⟨Lib.tabBelow_of_tabIs ?_, ?_⟩
  · unfold Lib.TabIs
    rw [hv2, ← Lib.cells_of_tab (k := .u64) (zs := Lib.pow10Tab) (n := 20) Tryd.underlying98 Tryd.underlying82 (by kernel_rfl) (by kernel_rfl) hd2]
  · obtain ⟨a, cap, hcs, hcap, hel⟩ := open_row Tryd.underlying47 (by kernel_rfl) hd3
    have hcell := World.var?_cell hg3 hv3 0
    rw [Array.eq_one_of_toList hcs] at hcell
    have hc0 : W.cell? ⟨0, 0, none⟩ = some (.slice (some a) 4 cap) := by simpa using hcell
    have hw : ∀ j (hj : j < wordsB.length), W.cell? (a.add j) = some (.string wordsB[j]) := by
      intro j hj
      have key : ∀ (i : Nat) (v : Value) (s s' : ByteArray) (l : List UInt8), W.cell? (a.add i) = some v → [v] = [Value.string s'] → l = s'.data.toList → l = s.data.toList → W.cell? (a.add i) = some (.string s) := by
        intro i v s s' l hv h1 h2 h3
        have e : s = s' := by
          have := h3.symm.trans h2
          cases s; cases s'
          simpa using this
        subst e
        simp only [List.cons.injEq, and_true] at h1
        rw [hv, h1]
      match j, hj with
      | 0, _ =>
        obtain ⟨v, n, q, hv, ht⟩ := hel 0 _ rfl
        obtain ⟨s', hs', hx, _⟩ := DataW.trod_string Tryd.underlying9 ht
        simp only [Prod.mk.injEq, DataW.lit.injEq, Lit.string.injEq] at hx
        exact key 0 v _ s' _ hv hs' hx.1 rfl
      | 1, _ =>
        obtain ⟨v, n, q, hv, ht⟩ := hel 1 _ rfl
        obtain ⟨s', hs', hx, _⟩ := DataW.trod_string Tryd.underlying9 ht
        simp only [Prod.mk.injEq, DataW.lit.injEq, Lit.string.injEq] at hx
        exact key 1 v _ s' _ hv hs' hx.1 rfl
      | 2, _ =>
        obtain ⟨v, n, q, hv, ht⟩ := hel 2 _ rfl
        obtain ⟨s', hs', hx, _⟩ := DataW.trod_string Tryd.underlying9 ht
        simp only [Prod.mk.injEq, DataW.lit.injEq, Lit.string.injEq] at hx
        exact key 2 v _ s' _ hv hs' hx.1 rfl
      | 3, _ =>
        obtain ⟨v, n, q, hv, ht⟩ := hel 3 _ rfl
        obtain ⟨s', hs', hx, _⟩ := DataW.trod_string Tryd.underlying9 ht
        simp only [Prod.mk.injEq, DataW.lit.injEq, Lit.string.injEq] at hx
        exact key 3 v _ s' _ hv hs' hx.1 rfl
    exact ⟨a, cap, hc0, World.block_lt_of_cell? W _ hc0, by have := World.block_lt_of_cell? W _ (hw 0 (by decide)); rwa [block_of_add] at this, by simpa using hcap, hw⟩

/-- The door's own heap meets the condition. -/
theorem door_met (os : Os) (args : Array Value) : laidMetH Tryd.prog laidF ((World.doorLaid Tryd.prog 4000 os).forCall (fun _ _ => 0) ⟨#[], args, []⟩).memory :=
  laidMetH_of_parts3 (fuel := 8) (laidMet_of_run' 8 (by kernel_rfl) (by kernel_rfl)) (by kernel_rfl) (by kernel_rfl)

section
variable {H : Type} {enc : TypeId × Value → H} {P : Program}
theorem law_post_v {f : Func} {s : ChangeSpec} {W W' : World} {args : Array Value} {ds gs : List (DataW H)} {before : List MemPlace} {tb : TypeId}
    (hl : laidOutB P = true) (hts : ∀ t ∈ f.params.toList, P.readableRec t = true ∧ t < P.types.size)
    (hres : f.resultTypes = #[tb]) (hbt : P.underlying tb = some .bool)
    (hv : varsRowed P s.vars = true) (h1 : (s.fn H (ds ++ gs)).results = [.lit (.bool true)]) (h2 : (s.fn H (ds ++ gs)).args = ds) (h3 : (s.fn H (ds ++ gs)).vars = gs)
    (hW : DataW.Whole enc P f.params.toList s.vars false W args.toList ds gs before) (hb : Below W.heap.size W W') :
    s.post enc P f false true false false W args (.bool true) W' := by
  have hlt := hW.lt
  obtain ⟨p, q, hA, hV, rfl, hfz, hnd⟩ := id hW
  refine ⟨ds, gs, p ++ q, [], p, q, hW, ?_, ?_, ?_, hb.frame _, fun h => by cases h⟩
  · rw [hres, h1]
    exact trodAll_mk1 (shut_bool hbt true)
  · rw [h2]
    exact trodAll_below hl hb _ _ _ _ hts hA (fun x hx => hlt x (by simp [hx]))
  · rw [h3]
    exact Below.trodVars hl hb hv hV
end
theorem gs_one {H : Type} {enc : TypeId × Value → H} {P : Program} {w : World} {sp : Nat → Bool} {n : String} {gs : List (DataW H)} {ps : List MemPlace} (h : DataW.TrodVars enc P w sp [n] gs ps) : ∃ g1, gs = [g1] := by
  match gs, h with
  | [g], _ => exact ⟨g, rfl⟩
  | _ :: _ :: _, ⟨_, _, _, _, _, _, _, _, _, _, h, _⟩ => exact h.elim
end Go.Proofs.YtfodedakhnoplaaDoor
