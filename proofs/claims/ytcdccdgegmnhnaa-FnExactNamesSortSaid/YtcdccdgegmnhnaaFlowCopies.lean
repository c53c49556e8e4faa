/- Contracts of the laws' own functions on flows: szStepS, szFlow, toStepS, toFlow, eqStepS, eqFlow. Condition: sizes as the laws ask them. -/
import Derived.Test.YtcdccdgegmnhnaaStepCopies
import Derived.Test.YtcdccdgegmnhnaaFlowWords
import Derived.Deep.RegionWith
namespace Go.Proofs.Ytcdccdgegmnhnaa
set_option linter.unusedVariables false
set_option maxRecDepth 100000
open Go.RowKit Go.Deep

/-- What the laws count of a list of steps. -/
def totSt : List St → Nat
  | [] => 0
  | x :: r => x.name.size + tot x.after + totSt r
theorem totSt_take_succ {xs : List St} {k : Nat} (h : k < xs.length) : totSt (xs.take (k + 1)) = totSt (xs.take k) + (xs[k].name.size + tot xs[k].after) := by
  induction xs generalizing k with
  | nil => simp at h
  | cons x r ih =>
    cases k with
    | zero => simp [totSt]
    | succ k =>
      simp only [List.take_succ_cons, totSt, List.getElem_cons_succ]
      rw [ih (by simpa using h)]
      omega
theorem totSt_take_le (xs : List St) (k : Nat) : totSt (xs.take k) ≤ totSt xs := by
  induction xs generalizing k with
  | nil => simp
  | cons x r ih =>
    cases k with
    | zero => simp [totSt]
    | succ k => simp only [List.take_succ_cons, totSt]; have := ih k; omega
theorem totSt_mem {xs : List St} {x : St} (h : x ∈ xs) : x.name.size + tot x.after ≤ totSt xs := by
  induction xs with
  | nil => cases h
  | cons y r ih =>
    simp only [totSt]
    rcases List.mem_cons.1 h with rfl | h
    · omega
    · have := ih h; omega

theorem flow_afters {ss : List St} (h : ss.length + totSt ss ≤ 1048576) : ∀ s ∈ ss, s.after.length ≤ 1048576 := by
  intro s hs
  have h1 := totSt_mem hs
  have h2 := tot_len s.after
  omega

/-- No two steps' lists of names lie in one block. -/
def DisS (vs : List Value) (k : Nat) : Prop :=
  ∀ i j p q n m c d, i < j → j < k → vs[i * 3 + 1]? = some (.slice (some p) n c) → vs[j * 3 + 1]? = some (.slice (some q) m d) → Addr.block p ≠ Addr.block q

theorem OwnStrs.block_ {w : World} {base : Nat} {p : Addr} {c : Nat} {xs : List ByteArray} (h : OwnStrs w base (some p) c xs) : base ≤ p.block ∧ p.block < w.heap.size := h.1.lt p.block rfl

/-- Steps in memory of the call's own: one block, and the names that each comes after behind it. -/
structure OwnSts (w : World) (base : Nat) (A : Option Addr) (c : Nat) (ss : List St) : Prop where
  row : ∃ b vs, A = some ⟨b, 0, none⟩ ∧ base ≤ b ∧ w.ownsRow base 34 3 (.slice A ss.length c) ss.length vs ∧
    (∀ j (h : j < ss.length), vs[j * 3]? = some (.string ss[j].name) ∧ (∃ A' c', vs[j * 3 + 1]? = some (.slice A' ss[j].after.length c') ∧ OwnStrs w (b + 1) A' c' ss[j].after) ∧ vs[j * 3 + 2]? = some (.bool ss[j].undo)) ∧ DisS vs ss.length
  lens : ∀ j (h : j < ss.length), ss[j].name.size ≤ 9223372036854775807

theorem OwnSts.below {w w' : World} {base : Nat} {A : Option Addr} {c : Nat} {ss : List St} (h : OwnSts w base A c ss) (hb : Below w.heap.size w w') : OwnSts w' base A c ss := by
  obtain ⟨⟨b, vs, e, hbase, hr, hj, hd⟩, hl⟩ := h
  refine ⟨⟨b, vs, e, hbase, own_below hr hb, fun j h => ?_, hd⟩, hl⟩
  obtain ⟨h0, ⟨A', c', h1, h2⟩, h3⟩ := hj j h
  exact ⟨h0, ⟨A', c', h1, h2.below hb⟩, h3⟩
theorem OwnSts.base_ {w : World} {base base' : Nat} {A : Option Addr} {c : Nat} {ss : List St} (h : OwnSts w base A c ss) (hb : base' ≤ base) : OwnSts w base' A c ss := by
  obtain ⟨⟨b, vs, e, hbase, hr, hj, hd⟩, hl⟩ := h
  exact ⟨⟨b, vs, e, by omega, own_base hr hb, hj, hd⟩, hl⟩
theorem OwnSts.sts {w : World} {base : Nat} {A : Option Addr} {c : Nat} {ss : List St} (h : OwnSts w base A c ss) : Sts w w.heap.size A c ss := by
  obtain ⟨⟨b, vs, rfl, hbase, hr, hj, _⟩, hl⟩ := h
  obtain ⟨hvl, hr2⟩ := id hr
  rcases hr2 with ⟨hv, hn⟩ | ⟨g, cap, cur, hv, hg, hh, hnc, hcm, _⟩
  · cases hv
  · injection hv with h1 h2 h3
    injection h1 with h1
    injection h1 with h1 _ _
    subst h1 h3
    refine ⟨hnc, by simpa [maxLen] using hcm, hl, fun hn => ⟨_, rfl, (Array.getElem?_eq_some_iff.1 hh).1, fun j h => ?_⟩⟩
    have hadd : (⟨b, 0, none⟩ : Addr).add (j * 3) = ⟨b, j * 3, none⟩ := by unfold Addr.add; split <;> simp_all
    obtain ⟨h0, ⟨A', c', h1, h2⟩, h3⟩ := hj j h
    rw [hadd]
    refine ⟨A', c', ?_, ?_, ?_, h2.strs⟩
    · rw [hr.cellAt _ (by omega)]; exact h0
    · rw [hr.cellAt _ (by show j * 3 + 1 < _; omega)]; exact h1
    · rw [hr.cellAt _ (by show j * 3 + 2 < _; omega)]; exact h3

/-- Steps are handed back, in memory of the call's own. -/
def RetSts (ss : List St) (w : World) (e : Ending) (w' : World) : Prop :=
  ∃ A c, e = .returned (.slice A ss.length c) ∧ OwnSts w' w.heap.size A c ss ∧ Below w.heap.size w w'

theorem stepInfo : (Try.prog.info? 34).map (fun i => (i.zero, i.size, i.bytes)) = some (some (.agg #[.string ⟨#[]⟩, .slice none 0 0, .bool false]), 3, 48) := by kernel_rfl

theorem set3_at {vs : List Value} {k j : Nat} {x y z : Value} (hk : k * 3 + 3 ≤ vs.length) (hne : j ≠ k) (i : Nat) (hi : i < 3) :
    (((vs.set (k * 3) x).set (k * 3 + 1) y).set (k * 3 + 2) z)[j * 3 + i]? = vs[j * 3 + i]? := by
  rw [List.getElem?_set_ne (by omega), List.getElem?_set_ne (by omega), List.getElem?_set_ne (by omega)]
theorem set3_new {vs : List Value} {k : Nat} {x y z : Value} (hk : k * 3 + 3 ≤ vs.length) :
    (((vs.set (k * 3) x).set (k * 3 + 1) y).set (k * 3 + 2) z)[k * 3]? = some x ∧ (((vs.set (k * 3) x).set (k * 3 + 1) y).set (k * 3 + 2) z)[k * 3 + 1]? = some y ∧ (((vs.set (k * 3) x).set (k * 3 + 1) y).set (k * 3 + 2) z)[k * 3 + 2]? = some z := by
  refine ⟨?_, ?_, ?_⟩
  · rw [List.getElem?_set_ne (by omega), List.getElem?_set_ne (by omega), List.getElem?_set_self (by omega)]
  · rw [List.getElem?_set_ne (by omega), List.getElem?_set_self (by simp; omega)]
  · rw [List.getElem?_set_self (by simp; omega)]

/-- A flow is handed back, in memory of the call's own. -/
def RetFlow (ver : Int) (ss : List St) (w : World) (e : Ending) (w' : World) : Prop :=
  ∃ A c, e = .returned (.agg #[.int .i64 ver, .slice A ss.length c]) ∧ OwnSts w' w.heap.size A c ss ∧ Below w.heap.size w w'

theorem OwnSts.setLow {w : World} {base : Nat} {A : Option Addr} {c : Nat} {ss : List St} (h : OwnSts w base A c ss) {a : Addr} (ha : a.block < base) (u : Value) : OwnSts (w.setCell a u) base A c ss := by
  obtain ⟨⟨b, vs, e, hbase, hr, hj, hd⟩, hl⟩ := h
  refine ⟨⟨b, vs, e, hbase, ownsRow_setCell_below hr ha u, fun j h => ?_, hd⟩, hl⟩
  obtain ⟨h0, ⟨A', c', h1, h2⟩, h3⟩ := hj j h
  exact ⟨h0, ⟨A', c', h1, h2.setLow (by omega) u⟩, h3⟩

end Go.Proofs.Ytcdccdgegmnhnaa
