/- Arguments that hold events, opened. No condition. -/
import Derived.Test.YtfodedakhnoplaaDoorArgs
import Derived.Test.YtfodedakhnoplaaDoorEvWords
import Derived.Deep.Slices
import Derived.Deep.Strs
namespace Go.Proofs.YtfodedakhnoplaaDoor
set_option linter.unusedVariables false
set_option maxRecDepth 100000
open Go.ChangeShapes Go.WideShapes Go.ChangeAt Go.RowKit Go.Deep

theorem Tryd.cellsInt : Tryd.prog.cellsOf 3 = 1 := by kernel_rfl
theorem Tryd.cellsEvent : Tryd.prog.cellsOf 23 = 2 := by kernel_rfl

def IsEvs (W : World) (v : Value) : Prop := ∃ (A : Option Addr) (c : Nat) (es : List Ev), v = .slice A es.length c ∧ Evs W W.heap.size A c es

section
variable {H : Type} {enc : TypeId × Value → H} {W : World} {base : Nat} {v : Value} {d : DataW H} {p : List MemPlace} {sp : Nat → Bool}

theorem event_cells {b : Nat} {f : Nat} {cs : List Value} {x : DataW H × List MemPlace} (hf : DataW.trod enc Tryd.prog W b sp true f 23 cs = some x) :
    ∃ (k : Int) (s : ByteArray), cs = [.int .i64 k, .string s] ∧ s.size ≤ 9223372036854775807 := by
  obtain ⟨y0, y1, n, _, hl, h0, h1⟩ := trod_struct2 Tryd.underlying23 hf
  rw [Tryd.cellsEvent] at hl
  match cs, hl with
  | [c0, c1], _ =>
    have h0' : DataW.trod enc Tryd.prog W b sp true n 3 (([c0, c1].drop 0).take (Tryd.prog.cellsOf 3)) = some y0 := h0
    have h1' : DataW.trod enc Tryd.prog W b sp true n 9 (([c0, c1].drop 1).take (Tryd.prog.cellsOf 9)) = some y1 := h1
    rw [Tryd.cellsInt] at h0'
    rw [Tryd.cellsString] at h1'
    obtain ⟨k, e0, _, _⟩ := DataW.trod_int Tryd.underlying3 h0'
    obtain ⟨s, e1, _, hs⟩ := DataW.trod_string Tryd.underlying9 h1'
    simp at e0 e1
    subst e0 e1
    exact ⟨k, s, rfl, by simpa [maxLen] using hs⟩

theorem arg_events (hv : Value.okWide Tryd.prog W .any base 36 v) (h : DataW.Trod enc Tryd.prog W 0 sp true 36 v d p) : IsEvs W v := by
  obtain ⟨a0, len0, cap0, rfl⟩ := okWide_slice Tryd.underlying36 hv
  obtain ⟨f, hf⟩ := h
  rcases open_slice Tryd.underlying36 hf with ⟨hcs, _⟩ | ⟨a, len, cap, m, n, D, Pl, hcs, _, hl, hm, hmm, _, hi⟩
  · refine ⟨none, 0, [], ?_, Evs.nil_⟩
    simpa [Value.cells] using hcs
  · have hlm : len ≤ m := by rw [hmm]; split <;> omega
    rw [Tryd.cellsEvent] at hi
    have hat : ∀ i, i < len → ∃ e : Ev, W.cell? (a.add (i * 2)) = some (.int .i64 e.kind) ∧ W.cell? ⟨(a.add (i * 2)).block, (a.add (i * 2)).off + 1, none⟩ = some (.string e.name) ∧ e.name.size ≤ 9223372036854775807 := by
      intro i hil
      obtain ⟨cs', hc, ht⟩ := hi i (by omega)
      obtain ⟨k, s, rfl, hs⟩ := event_cells ht
      obtain ⟨_, _, hcell⟩ := World.cells?_some hc
      refine ⟨⟨k, s⟩, ?_, ?_, hs⟩
      · have := hcell 0 (by omega)
        have e0 : (a.add (i * 2)).add 0 = a.add (i * 2) := by unfold Addr.add; simp
        rw [e0] at this
        simpa using this
      · have := hcell 1 (by omega)
        exact this
    obtain ⟨F, hF⟩ : ∃ F : Nat → Ev, ∀ i, i < len → W.cell? (a.add (i * 2)) = some (.int .i64 (F i).kind) ∧ W.cell? ⟨(a.add (i * 2)).block, (a.add (i * 2)).off + 1, none⟩ = some (.string (F i).name) ∧ (F i).name.size ≤ 9223372036854775807 := by
      refine ⟨fun i => if hil : i < len then Classical.choose (hat i hil) else ⟨0, ⟨#[]⟩⟩, fun i hil => ?_⟩
      simp only [hil, dite_true]
      exact Classical.choose_spec (hat i hil)
    have hlen : ((List.range len).map F).length = len := by simp
    refine ⟨some a, cap, (List.range len).map F, ?_, by omega, by simpa [maxLen] using hm, ?_, ?_⟩
    · rw [hlen]
      simpa [Value.cells] using hcs
    · intro j hj
      simp only [List.getElem_map, List.getElem_range]
      exact (hF j (by omega)).2.2
    · intro h0
      refine ⟨a, rfl, ?_, fun j hj => ?_⟩
      · have := World.block_lt_of_cell? W _ (hF 0 (by omega)).1
        rwa [block_of_add] at this
      · simp only [List.getElem_map, List.getElem_range]
        exact ⟨(hF j (by omega)).1, (hF j (by omega)).2.1⟩
end
end Go.Proofs.YtfodedakhnoplaaDoor
