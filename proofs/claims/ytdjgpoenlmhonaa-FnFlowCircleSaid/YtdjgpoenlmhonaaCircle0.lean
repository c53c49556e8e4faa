/- Words for memory: a row of steps of the call's own whose steps are turned one by one. Condition: the lists are short. -/
import Derived.Test.YtdjgpoenlmhonaaFlowPart0
namespace Go.Proofs.Ytdjgpoenlmhonaa
set_option linter.unusedVariables false
set_option maxRecDepth 100000
open Go.RowKit

/-- A row of steps of the call's own in block b; what they come after lies in other blocks. -/
structure RowAp (w : World) (b sc : Nat) (ss : List St) : Prop where
  row : ∃ vs, w.ownsRow b 32 3 (.slice (some ⟨b, 0, none⟩) ss.length sc) ss.length vs ∧
    ∀ j (h : j < ss.length), vs[j * 3]? = some (.string ss[j].name) ∧ (∃ A' c', vs[j * 3 + 1]? = some (.slice A' ss[j].after.length c') ∧ Strs w w.heap.size A' c' ss[j].after ∧ (0 < ss[j].after.length → ∀ q, A' = some q → q.block ≠ b)) ∧ vs[j * 3 + 2]? = some (.bool ss[j].undo)
  lens : ∀ j (h : j < ss.length), ss[j].name.size ≤ 9223372036854775807
section
variable {w w' : World} {b sc : Nat} {ss : List St}
theorem Strs.fix {B B' c : Nat} {A : Option Addr} {xs : List ByteArray} (h : Strs w B A c xs) (hk : 0 < xs.length → ∀ q i, A = some q → q.block < B → q.block < B' ∧ w'.cell? (q.add i) = w.cell? (q.add i)) : Strs w' B' A c xs :=
  ⟨h.len, h.cap, h.lens, fun hn => by
    obtain ⟨ad, e, hb, hc⟩ := h.cells hn
    exact ⟨ad, e, (hk hn ad 0 e hb).1, fun j hj => (hk hn ad j e hb).2.trans (hc j hj)⟩⟩
theorem RowAp.of_ {lo B : Nat} (h : RowSts w lo B (some ⟨b, 0, none⟩) sc ss) (hB : B ≤ lo) (hl : lo ≤ w.heap.size) (h0 : 0 < ss.length) : RowAp w b sc ss := by
  obtain ⟨b', e, hbl, _⟩ := h.form h0
  injection e with e
  injection e with e
  subst e
  obtain ⟨⟨vs, hr, hc⟩, hlen⟩ := h
  refine ⟨⟨vs, ?_, fun j hj => ?_⟩, hlen⟩
  · rcases hr.2 with ⟨hv, _⟩ | ⟨g, cap, cur, hv, hg, r⟩
    · cases hv
    · injection hv with h1 h2 h3
      injection h1 with h1
      injection h1 with h1
      subst h1 h3
      exact ⟨hr.1, .inr ⟨b, sc, cur, rfl, Nat.le_refl _, r⟩⟩
  · obtain ⟨h0, ⟨A', c', h1, h2⟩, h3⟩ := hc j hj
    refine ⟨h0, ⟨A', c', h1, h2.more (by omega), fun hn q hq => ?_⟩, h3⟩
    obtain ⟨ad, e, hb, _⟩ := h2.cells hn
    rw [hq] at e
    injection e with e
    subst e
    omega
theorem RowAp.lt (h : RowAp w b sc ss) : b < w.heap.size := by
  obtain ⟨⟨vs, hr, _⟩, _⟩ := h
  exact (hr.lt b rfl).2
theorem RowAp.cap (h : RowAp w b sc ss) : ss.length ≤ sc ∧ sc ≤ 9223372036854775807 := by
  obtain ⟨⟨vs, hr, _⟩, _⟩ := h
  rcases hr.2 with ⟨hv, _⟩ | ⟨g, cap, cur, hv, hg, hh, hnc, hcm, _⟩
  · cases hv
  · injection hv with h1 h2 h3
    subst h3
    exact ⟨hnc, by simpa [maxLen] using hcm⟩
theorem RowAp.at_ (h : RowAp w b sc ss) {j : Nat} (hj : j < ss.length) : w.cell? ⟨b, j * 3, none⟩ = some (.string ss[j].name) ∧ (∃ u, w.cell? ⟨b, j * 3 + 1, none⟩ = some u) ∧ ∀ i, w.frozen? ⟨b, i, none⟩ = false := by
  obtain ⟨⟨vs, hr, hc⟩, _⟩ := h
  obtain ⟨h0, ⟨A', c', h1, _⟩, _⟩ := hc j hj
  exact ⟨by rw [hr.cellAt _ (by omega)]; exact h0, ⟨_, by rw [hr.cellAt _ (by omega)]; exact h1⟩, fun i => hr.frozenAt i⟩
theorem RowAp.sts (h : RowAp w b sc ss) : Sts w w.heap.size (some ⟨b, 0, none⟩) sc ss := by
  have hl := h.lt
  have hc := h.cap
  obtain ⟨⟨vs, hr, hj⟩, hlen⟩ := h
  refine ⟨hc.1, hc.2, hlen, fun _ => ⟨_, rfl, hl, fun j hjl => ?_⟩⟩
  have hadd : (⟨b, 0, none⟩ : Addr).add (j * 3) = ⟨b, j * 3, none⟩ := by unfold Addr.add; split <;> simp_all
  rw [hadd]
  obtain ⟨h0, ⟨A', c', h1, h2, _⟩, h3⟩ := hj j hjl
  exact ⟨A', c', by rw [hr.cellAt _ (by omega)]; exact h0, by show w.cell? ⟨b, j * 3 + 1, none⟩ = _; rw [hr.cellAt _ (by omega)]; exact h1, by show w.cell? ⟨b, j * 3 + 2, none⟩ = _; rw [hr.cellAt _ (by omega)]; exact h3, h2⟩
theorem RowAp.drew (h : RowAp w b sc ss) : RowAp w.drew b sc ss := by
  obtain ⟨⟨vs, hr, hj⟩, hlen⟩ := h
  exact ⟨⟨vs, row_move hr fun _ _ => rfl, fun j hjl => by
    obtain ⟨h0, ⟨A', c', h1, h2, h4⟩, h3⟩ := hj j hjl
    exact ⟨h0, ⟨A', c', h1, h2.keep fun _ _ => rfl, h4⟩, h3⟩⟩, hlen⟩
/-- A step of the row comes after one name alone. -/
theorem RowAp.store (h : RowAp w b sc ss) {i : Nat} (hi : i < ss.length) (x : ByteArray) (hx : x.size ≤ 9223372036854775807) :
    RowAp ((w.alloc (.cells #[.string x] 9)).setCell ⟨b, i * 3 + 1, none⟩ (.slice (some ⟨w.heap.size, 0, none⟩) 1 1)) b sc (ss.set i { ss[i] with after := [x] }) := by
  have hbl := h.lt
  obtain ⟨⟨vs, hr, hj⟩, hlen⟩ := h
  have hz : ((w.alloc (.cells #[.string x] 9)).setCell ⟨b, i * 3 + 1, none⟩ (.slice (some ⟨w.heap.size, 0, none⟩) 1 1)).heap.size = w.heap.size + 1 := by simp [World.setCell]
  have hr2 : (w.alloc (.cells #[.string x] 9)).ownsRow b 32 3 (.slice (some ⟨b, 0, none⟩) ss.length sc) ss.length vs := hr.alloc _
  have hr3 := (hr2.stored (i * 3 + 1) (.slice (some ⟨w.heap.size, 0, none⟩) 1 1)).1
  have hvl : vs.length = ss.length * 3 := hr.1
  refine ⟨⟨vs.set (i * 3 + 1) (.slice (some ⟨w.heap.size, 0, none⟩) 1 1), by rw [List.length_set]; exact hr3, fun j hjl => ?_⟩, fun j hjl => ?_⟩
  · rw [List.length_set] at hjl
    obtain ⟨h0, ⟨A', c', h1, h2, h4⟩, h3⟩ := hj j hjl
    rw [List.getElem?_set_ne (by omega), List.getElem?_set_ne (show i * 3 + 1 ≠ j * 3 + 2 by omega)]
    by_cases hji : i = j
    · subst hji
      rw [List.getElem_set_self]
      refine ⟨h0, ⟨some ⟨w.heap.size, 0, none⟩, 1, by rw [List.getElem?_set_self (by omega)]; rfl, ⟨by simp, by omega, fun q hq => ?_, fun _ => ⟨_, rfl, ?_, fun q hq => ?_⟩⟩, fun _ q hq => ?_⟩, h3⟩
      · have : q = 0 := by simp at hq; omega
        subst this; exact hx
      · exact Nat.lt_of_lt_of_eq (Nat.lt_succ_self w.heap.size) hz.symm
      · have : q = 0 := by simp at hq; omega
        subst this
        show ((w.alloc _).setCell ⟨b, i * 3 + 1, none⟩ _).cell? ⟨w.heap.size, 0, none⟩ = _
        rw [World.cell?_setCell_other _ _ _ _ (fun e => by injection e with e; omega)]
        exact cell_new1 w _ _
      · injection hq with hq
        subst hq
        show w.heap.size ≠ b
        omega
    · rw [List.getElem_set_ne hji, List.getElem?_set_ne (by omega)]
      refine ⟨h0, ⟨A', c', h1, h2.fix fun hn q m hq hql => ?_, h4⟩, h3⟩
      have hqb := h4 hn q hq
      refine ⟨by rw [hz]; omega, ?_⟩
      rw [World.cell?_setCell_other _ _ _ _ (fun e => hqb (by have := congrArg Addr.block e; rw [block_of_add] at this; exact this.symm))]
      exact World.cell?_alloc_lt w _ _ (by rw [block_of_add]; exact hql)
  · rw [List.length_set] at hjl
    rw [List.getElem_set]
    split
    · exact hlen i hi
    · exact hlen j hjl
end
/-- The first k steps are turned. -/
def turnedTo (ss : List St) (nm x : ByteArray) (k : Nat) : List St := (ss.take k).map (fun s => if s.name = nm then { s with after := [x] } else s) ++ ss.drop k
theorem turnedTo_len (ss : List St) (nm x : ByteArray) (k : Nat) : (turnedTo ss nm x k).length = ss.length := by
  unfold turnedTo
  rw [List.length_append, List.length_map, List.length_take, List.length_drop]; omega
theorem turnedTo_zero (ss : List St) (nm x : ByteArray) : turnedTo ss nm x 0 = ss := by simp [turnedTo]
theorem turnedTo_all (ss : List St) (nm x : ByteArray) : turnedTo ss nm x ss.length = ss.map (fun s => if s.name = nm then { s with after := [x] } else s) := by simp [turnedTo]
theorem turnedTo_get {ss : List St} {nm x : ByteArray} {k : Nat} (h : k < ss.length) : (turnedTo ss nm x k)[k]'(by rw [turnedTo_len]; exact h) = ss[k] := by
  unfold turnedTo
  rw [List.getElem_append_right (by simp; omega)]
  simp [List.length_take, Nat.min_eq_left (Nat.le_of_lt h)]
theorem turnedTo_no {ss : List St} {nm x : ByteArray} {k : Nat} (h : k < ss.length) (hn : ss[k].name ≠ nm) : turnedTo ss nm x (k + 1) = turnedTo ss nm x k := by
  unfold turnedTo
  rw [List.take_succ_eq_append_getElem h, List.map_append, List.map_singleton, if_neg hn, List.append_assoc, List.singleton_append, List.drop_eq_getElem_cons h]
theorem turnedTo_yes {ss : List St} {nm x : ByteArray} {k : Nat} (h : k < ss.length) (hn : ss[k].name = nm) : turnedTo ss nm x (k + 1) = (turnedTo ss nm x k).set k { ss[k] with after := [x] } := by
  unfold turnedTo
  rw [List.take_succ_eq_append_getElem h, List.map_append, List.map_singleton, if_pos hn, List.append_assoc, List.singleton_append, List.set_append_right _ _ (by simp; omega)]
  congr 1
  have e : k - (List.map (fun s : St => if s.name = nm then { s with after := [x] } else s) (ss.take k)).length = 0 := by rw [List.length_map, List.length_take]; omega
  rw [e]
  conv => rhs; rw [List.drop_eq_getElem_cons h]
  rfl
end Go.Proofs.Ytdjgpoenlmhonaa
