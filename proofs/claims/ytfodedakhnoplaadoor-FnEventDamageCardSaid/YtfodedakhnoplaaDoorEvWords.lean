/- Words for memory: a slice of events that reads as a list. No condition. -/
import Derived.Test.YtfodedakhnoplaaDoorWords
import Derived.Test.YtfodedakhnoplaaDoorPlain
namespace Go.Proofs.YtfodedakhnoplaaDoor
set_option linter.unusedVariables false
set_option maxRecDepth 100000
open Go.RowKit

/-- An event as data. -/
structure Ev where
  kind : Int
  name : ByteArray

def evCells (e : Ev) : List Value := [.int .i64 e.kind, .string e.name]

/-- The slice value '.slice A es.length c' holds the events es, below block B. -/
structure Evs (w : World) (B : Nat) (A : Option Addr) (c : Nat) (es : List Ev) : Prop where
  len : es.length ≤ c
  cap : c ≤ 9223372036854775807
  lens : ∀ j (h : j < es.length), es[j].name.size ≤ 9223372036854775807
  cells : 0 < es.length → ∃ ad, A = some ad ∧ ad.block < B ∧ ∀ j (h : j < es.length), w.cell? (ad.add (j * 2)) = some (.int .i64 es[j].kind) ∧ w.cell? ⟨(ad.add (j * 2)).block, (ad.add (j * 2)).off + 1, none⟩ = some (.string es[j].name)

section
variable {w w' : World} {B B' c : Nat} {A : Option Addr} {es : List Ev}
theorem Evs.nil_ : Evs w B none 0 [] := ⟨by simp, by omega, fun j h => absurd h (by simp), fun h => absurd h (by simp)⟩
theorem Evs.at_ {k : Nat} (h : Evs w B A c es) (hk : k < es.length) : ∃ ad, A = some ad ∧ ad.block < B ∧ w.cell? (ad.add (k * 2)) = some (.int .i64 es[k].kind) ∧ w.cell? ⟨(ad.add (k * 2)).block, (ad.add (k * 2)).off + 1, none⟩ = some (.string es[k].name) := by
  obtain ⟨ad, e, hb, hc⟩ := h.cells (by omega)
  exact ⟨ad, e, hb, hc k hk⟩
theorem Evs.keep (h : Evs w B A c es) (hk : ∀ p : Addr, p.block < B → w'.cell? p = w.cell? p) : Evs w' B A c es :=
  ⟨h.len, h.cap, h.lens, fun hn => by
    obtain ⟨ad, e, hb, hc⟩ := h.cells hn
    exact ⟨ad, e, hb, fun j hj => ⟨(hk _ (by rw [block_of_add]; exact hb)).trans (hc j hj).1, (hk _ (by show (ad.add (j * 2)).block < B; rw [block_of_add]; exact hb)).trans (hc j hj).2⟩⟩⟩
theorem Evs.fit (h : Evs w B A c es) : Evs w w.heap.size A c es :=
  ⟨h.len, h.cap, h.lens, fun hn => by
    obtain ⟨ad, e, _, hc⟩ := h.cells hn
    refine ⟨ad, e, ?_, hc⟩
    have := World.block_lt_of_cell? w _ (hc 0 hn).1
    rwa [block_of_add] at this⟩
theorem Evs.below (h : Evs w B A c es) (hb : Below B w w') : Evs w' B A c es := h.keep fun _ hp => hb.cell hp
theorem Evs.then_ (h : Evs w B A c es) (hb : Below w.heap.size w w') : Evs w' w.heap.size A c es := h.fit.below hb
theorem Evs.alloc (h : Evs w B A c es) (o : Obj) : Evs (w.alloc o) w.heap.size A c es := h.fit.keep fun p hp => World.cell?_alloc_lt w o p (by omega)
theorem Evs.take (h : Evs w B A c es) (k : Nat) : Evs w B A c (es.take k) := by
  refine ⟨Nat.le_trans (by simp; omega) h.len, h.cap, fun j hj => ?_, fun hn => ?_⟩
  · rw [List.getElem_take]; exact h.lens _ _
  · obtain ⟨ad, e, hb, hc⟩ := h.cells (by simp at hn; omega)
    exact ⟨ad, e, hb, fun j hj => by rw [List.getElem_take]; exact hc j _⟩
end

theorem evCells_length (es : List Ev) : (es.flatMap evCells).length = es.length * 2 := by
  induction es with
  | nil => rfl
  | cons e r ih => simp only [List.flatMap_cons, List.length_append, ih, List.length_cons, evCells]; simp; omega
theorem evCells_at (es : List Ev) (j : Nat) (h : j < es.length) : (es.flatMap evCells)[j * 2]? = some (.int .i64 es[j].kind) ∧ (es.flatMap evCells)[j * 2 + 1]? = some (.string es[j].name) := by
  induction es generalizing j with
  | nil => simp at h
  | cons e r ih =>
    cases j with
    | zero => simp [evCells]
    | succ j =>
      have := ih j (by simpa using h)
      have e1 : (j + 1) * 2 = j * 2 + 2 := by omega
      simp only [List.flatMap_cons, List.getElem_cons_succ]
      constructor
      · rw [List.getElem?_append_right (by simp [evCells]; omega), e1]
        simpa [evCells] using this.1
      · rw [List.getElem?_append_right (by simp [evCells]; omega), e1]
        have e2 : j * 2 + 2 + 1 - (evCells e).length = j * 2 + 1 := by simp [evCells]
        rw [e2]; exact this.2

/-- Events in memory of the call's own. -/
def OwnEvs (w : World) (base : Nat) (A : Option Addr) (c : Nat) (es : List Ev) : Prop :=
  w.ownsRow base 26 2 (.slice A es.length c) es.length (es.flatMap evCells) ∧ ∀ e ∈ es, e.name.size ≤ 9223372036854775807
theorem OwnEvs.evs {w : World} {base : Nat} {A : Option Addr} {c : Nat} {es : List Ev} (h : OwnEvs w base A c es) : Evs w w.heap.size A c es := by
  obtain ⟨h, hx⟩ := h
  have hlens : ∀ j (h : j < es.length), es[j].name.size ≤ 9223372036854775807 := fun j hj => hx _ (List.getElem_mem hj)
  rcases h.2 with ⟨hv, hn⟩ | ⟨g, cap, cur, hv, hg, hh, hnc, hcm, _⟩
  · injection hv with h1 h2 h3
    subst h3
    exact ⟨by omega, by omega, hlens, fun h0 => by omega⟩
  · injection hv with h1 h2 h3
    subst h1 h3
    refine ⟨hnc, by simpa [maxLen] using hcm, hlens, fun _ => ⟨_, rfl, (Array.getElem?_eq_some_iff.1 hh).1, fun j hj => ?_⟩⟩
    have hadd : ∀ n, (⟨g, 0, none⟩ : Addr).add n = ⟨g, n, none⟩ := fun n => by unfold Addr.add; split <;> simp_all
    rw [hadd]
    have h2 := evCells_at es j hj
    constructor
    · rw [h.cellAt _ (by omega)]; exact h2.1
    · rw [h.cellAt _ (by show j * 2 + 1 < _; omega)]; exact h2.2
theorem OwnEvs.below {w w' : World} {base : Nat} {A : Option Addr} {c : Nat} {es : List Ev} (h : OwnEvs w base A c es) (hb : Below w.heap.size w w') : OwnEvs w' base A c es := ⟨own_below h.1 hb, h.2⟩
theorem OwnEvs.base_ {w : World} {base base' : Nat} {A : Option Addr} {c : Nat} {es : List Ev} (h : OwnEvs w base A c es) (hb : base' ≤ base) : OwnEvs w base' A c es := ⟨own_base h.1 hb, h.2⟩
theorem OwnEvs.alloc {w : World} {base : Nat} {A : Option Addr} {c : Nat} {es : List Ev} (h : OwnEvs w base A c es) (o : Obj) : OwnEvs (w.alloc o) base A c es := ⟨h.1.alloc o, h.2⟩
theorem OwnEvs.nil_ (w : World) (base : Nat) : OwnEvs w base none 0 [] := ⟨World.ownsRow_nil _ _ _ _, fun x hx => by cases hx⟩
theorem OwnEvs.of_ {w : World} {base : Nat} {v : Value} {n : Nat} {es : List Ev} {vs : List Value} (h : w.ownsRow base 26 2 v n vs) (hv : vs = es.flatMap evCells) (hn : n = es.length) (hx : ∀ e ∈ es, e.name.size ≤ 9223372036854775807) :
    ∃ A c, v = .slice A es.length c ∧ OwnEvs w base A c es := by
  subst hv hn
  rcases h.2 with ⟨hv, hn⟩ | ⟨g, cap, cur, hv, _⟩
  · subst hv
    have : es = [] := List.eq_nil_of_length_eq_zero hn
    subst this
    exact ⟨none, 0, rfl, OwnEvs.nil_ _ _⟩
  · subst hv
    exact ⟨_, _, rfl, h, hx⟩
/-- Events are handed back, in memory of the call's own. -/
def RetEvs (es : List Ev) (w : World) (e : Ending) (w' : World) : Prop :=
  ∃ A c, e = .returned (.slice A es.length c) ∧ OwnEvs w' w.heap.size A c es ∧ Below w.heap.size w w'

/-- One event is valid by itself. -/
def evOk (e : Ev) : Bool := decide (1 ≤ e.kind) && decide (e.kind ≤ 3) && nameOk e.name
def evsOk (es : List Ev) : Bool := es.all evOk && decide (es.length ≤ 20)
theorem evsOk_bad {es : List Ev} {k : Nat} (hk : k < es.length) (h : evOk es[k] = false) : evsOk es = false := by
  unfold evsOk
  have : es.all evOk = false := by
    rw [List.all_eq_false]
    exact ⟨es[k], List.getElem_mem hk, by simp [h]⟩
  rw [this]; rfl
theorem evsOk_end {es : List Ev} (h : ∀ j (hj : j < es.length), evOk es[j] = true) : evsOk es = decide (es.length ≤ 20) := by
  unfold evsOk
  have : es.all evOk = true := by
    rw [List.all_eq_true]
    intro e he
    obtain ⟨j, hj, rfl⟩ := List.getElem_of_mem he
    exact h j hj
  rw [this]; rfl
end Go.Proofs.YtfodedakhnoplaaDoor
