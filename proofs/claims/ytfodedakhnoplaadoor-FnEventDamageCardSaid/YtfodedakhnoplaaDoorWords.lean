/- Words for memory: a slice of strings that reads as a list. No program. No condition. -/
import Derived.Below
import Derived.Laws.OwnMore
import Derived.Deep.AppendLies
import Derived.Deep.Draws
import Derived.Lib.Hide
import Derived.Laws.Strings
namespace Go.Proofs.YtfodedakhnoplaaDoor
set_option linter.unusedVariables false
set_option maxRecDepth 100000
open Go.RowKit

theorem ret_bool {a b : Bool} (h : a = b) : Ending.returned (.bool a) = .returned (.bool b) := by rw [h]
theorem ret_int {a b : Int} (h : a = b) : Ending.returned (.int .i64 a) = .returned (.int .i64 b) := by rw [h]

theorem bdrewN {B : Nat} {a w : World} (h : Below B a w) (n : Nat) : Below B a (w.drewN n) := ⟨h.os, h.tape, h.output, h.size, h.block⟩
/-- What a call leaves of old memory, said of its own world. -/
theorem bcell {W w1 : World} (hb : Below W.heap.size W w1) : (∀ b o, b < W.heap.size → w1.cell? ⟨b, o, none⟩ = W.cell? ⟨b, o, none⟩) ∧ (∀ b o, b < W.heap.size → w1.frozen? ⟨b, o, none⟩ = W.frozen? ⟨b, o, none⟩) :=
  ⟨fun b o h => hb.cell (p := ⟨b, o, none⟩) h, fun b o h => hb.frozen (p := ⟨b, o, none⟩) h⟩
theorem Below.undrew {w w' : World} (h : Below w.drew.heap.size w.drew w') : Below w.heap.size w w' := ⟨h.os, h.tape, h.output, h.size, h.block⟩
/-- Two calls, one behind the other. -/
theorem bthen {W w1 w2 : World} (h : Below W.heap.size W w1) (k : Below w1.heap.size w1 w2) : Below W.heap.size W w2 := h.trans (k.mono h.size)
theorem cell_new1 (w : World) (v : Value) (t : TypeId) : (w.alloc (.cells #[v] t)).cell? ⟨w.heap.size, 0, none⟩ = some v := by
  rw [cell_of_row _ w.heap.size 0 _ _ (0, 0) (heap_alloc_new w _)]; rfl
theorem str_eq {a b : ByteArray} (h : (a.toList == b.toList) = true) : a = b := by
  rw [ByteArray.toList_eq, ByteArray.toList_eq] at h
  cases a; cases b
  simpa using h
theorem str_ne {a b : ByteArray} (h : (a.toList == b.toList) = false) : a ≠ b := by
  rintro rfl
  simp at h
theorem str_beq (a b : ByteArray) : (a.toList == b.toList) = decide (a = b) := by
  cases h : (a.toList == b.toList)
  · exact (decide_eq_false (str_ne h)).symm
  · exact (decide_eq_true (str_eq h)).symm

theorem block_of_add (a : Addr) (n : Nat) : (a.add n).block = a.block := by unfold Addr.add; split <;> rfl
theorem add_of_add (a : Addr) (i j : Nat) : (a.add i).add j = a.add (i + j) := by
  unfold Addr.add
  by_cases hi : i = 0 <;> by_cases hj : j = 0 <;> simp [hi, hj, Nat.add_assoc]

/-- The slice value '.slice A xs.length c' holds the strings xs, below block B. -/
structure Strs (w : World) (B : Nat) (A : Option Addr) (c : Nat) (xs : List ByteArray) : Prop where
  len : xs.length ≤ c
  cap : c ≤ 9223372036854775807
  lens : ∀ j (h : j < xs.length), xs[j].size ≤ 9223372036854775807
  cells : 0 < xs.length → ∃ ad, A = some ad ∧ ad.block < B ∧ ∀ j (h : j < xs.length), w.cell? (ad.add j) = some (.string xs[j])

section
variable {w w' : World} {B B' c : Nat} {A : Option Addr} {xs : List ByteArray}
theorem Strs.nil_ : Strs w B none 0 [] := ⟨by simp, by omega, fun j h => absurd h (by simp), fun h => absurd h (by simp)⟩
theorem Strs.at_ {k : Nat} (h : Strs w B A c xs) (hk : k < xs.length) : ∃ ad, A = some ad ∧ ad.block < B ∧ w.cell? (ad.add k) = some (.string xs[k]) := by
  obtain ⟨ad, e, hb, hc⟩ := h.cells (by omega)
  exact ⟨ad, e, hb, hc k hk⟩
theorem Strs.keep (h : Strs w B A c xs) (hk : ∀ p : Addr, p.block < B → w'.cell? p = w.cell? p) : Strs w' B A c xs :=
  ⟨h.len, h.cap, h.lens, fun hn => by
    obtain ⟨ad, e, hb, hc⟩ := h.cells hn
    exact ⟨ad, e, hb, fun j hj => (hk _ (by rw [block_of_add]; exact hb)).trans (hc j hj)⟩⟩
theorem Strs.more (h : Strs w B A c xs) (hB : B ≤ B') : Strs w B' A c xs :=
  ⟨h.len, h.cap, h.lens, fun hn => by
    obtain ⟨ad, e, hb, hc⟩ := h.cells hn
    exact ⟨ad, e, by omega, hc⟩⟩
theorem Strs.below (h : Strs w B A c xs) (hb : Below B w w') : Strs w' B A c xs := h.keep fun _ hp => hb.cell hp
theorem Strs.fit (h : Strs w B A c xs) : Strs w w.heap.size A c xs :=
  ⟨h.len, h.cap, h.lens, fun hn => by
    obtain ⟨ad, e, _, hc⟩ := h.cells hn
    refine ⟨ad, e, ?_, hc⟩
    have := World.block_lt_of_cell? w _ (hc 0 hn)
    rwa [block_of_add] at this⟩
theorem Strs.then_ (h : Strs w B A c xs) (hb : Below w.heap.size w w') : Strs w' w.heap.size A c xs := h.fit.below hb
theorem Strs.drew (h : Strs w B A c xs) : Strs w.drew B A c xs := h.keep fun _ _ => rfl
theorem Strs.drewN (h : Strs w B A c xs) (k : Nat) : Strs (w.drewN k) B A c xs := h.keep fun _ _ => rfl
theorem Strs.alloc (h : Strs w B A c xs) (hB : B ≤ w.heap.size) (o : Obj) : Strs (w.alloc o) B A c xs := h.keep fun p hp => World.cell?_alloc_lt w o p (by omega)
theorem Strs.setCell (h : Strs w B A c xs) {p : Addr} (hB : B ≤ p.block) (u : Value) : Strs (w.setCell p u) B A c xs :=
  h.keep fun q hq => World.cell?_setCell_other w p q u (fun e => by subst e; omega)
theorem Strs.take (h : Strs w B A c xs) (k : Nat) : Strs w B A c (xs.take k) := by
  refine ⟨Nat.le_trans (by simp; omega) h.len, h.cap, fun j hj => ?_, fun hn => ?_⟩
  · rw [List.getElem_take]; exact h.lens _ _
  · obtain ⟨ad, e, hb, hc⟩ := h.cells (by simp at hn; omega)
    exact ⟨ad, e, hb, fun j hj => by rw [List.getElem_take]; exact hc j _⟩
end
/-- What is owned stays owned while nothing below the heap's end turns. -/
theorem own_below {w w' : World} {base : Nat} {e : TypeId} {size : Nat} {v : Value} {n : Nat} {xs : List Value} (h : w.ownsRow base e size v n xs) (hb : Below w.heap.size w w') : w'.ownsRow base e size v n xs := by
  obtain ⟨h1, h2⟩ := h
  refine ⟨h1, ?_⟩
  rcases h2 with h2 | ⟨g, cap, cur, hv, hg, hh, r⟩
  · exact .inl h2
  · exact .inr ⟨g, cap, cur, hv, hg, by rw [hb.block g (Array.getElem?_eq_some_iff.1 hh).1]; exact hh, r⟩
theorem own_base {w : World} {base base' : Nat} {e : TypeId} {size : Nat} {v : Value} {n : Nat} {xs : List Value} (h : w.ownsRow base e size v n xs) (hb : base' ≤ base) : w.ownsRow base' e size v n xs := by
  obtain ⟨h1, h2⟩ := h
  refine ⟨h1, ?_⟩
  rcases h2 with h2 | ⟨g, cap, cur, hv, hg, r⟩
  · exact .inl h2
  · exact .inr ⟨g, cap, cur, hv, by omega, r⟩
/-- Names in memory of the call's own. -/
def OwnStrs (w : World) (base : Nat) (A : Option Addr) (c : Nat) (xs : List ByteArray) : Prop :=
  w.ownsRow base 9 1 (.slice A xs.length c) xs.length (xs.map Value.string) ∧ ∀ x ∈ xs, x.size ≤ 9223372036854775807
theorem OwnStrs.strs {w : World} {base : Nat} {A : Option Addr} {c : Nat} {xs : List ByteArray} (h : OwnStrs w base A c xs) : Strs w w.heap.size A c xs := by
  obtain ⟨h, hx⟩ := h
  have hlens : ∀ j (h : j < xs.length), xs[j].size ≤ 9223372036854775807 := fun j hj => hx _ (List.getElem_mem hj)
  rcases h.2 with ⟨hv, hn⟩ | ⟨g, cap, cur, hv, hg, hh, hnc, hcm, _⟩
  · injection hv with h1 h2 h3
    subst h3
    exact ⟨by omega, by omega, hlens, fun h0 => by omega⟩
  · injection hv with h1 h2 h3
    subst h1 h3
    refine ⟨hnc, by simpa [maxLen] using hcm, hlens, fun _ => ⟨_, rfl, (Array.getElem?_eq_some_iff.1 hh).1, fun j hj => ?_⟩⟩
    exact h.cells (g := g) rfl j _ (by simp [List.getElem?_eq_getElem hj])
theorem OwnStrs.below {w w' : World} {base : Nat} {A : Option Addr} {c : Nat} {xs : List ByteArray} (h : OwnStrs w base A c xs) (hb : Below w.heap.size w w') : OwnStrs w' base A c xs := ⟨own_below h.1 hb, h.2⟩
theorem OwnStrs.base_ {w : World} {base base' : Nat} {A : Option Addr} {c : Nat} {xs : List ByteArray} (h : OwnStrs w base A c xs) (hb : base' ≤ base) : OwnStrs w base' A c xs := ⟨own_base h.1 hb, h.2⟩
theorem OwnStrs.alloc {w : World} {base : Nat} {A : Option Addr} {c : Nat} {xs : List ByteArray} (h : OwnStrs w base A c xs) (o : Obj) : OwnStrs (w.alloc o) base A c xs := ⟨h.1.alloc o, h.2⟩
theorem OwnStrs.setLow {w : World} {base : Nat} {A : Option Addr} {c : Nat} {xs : List ByteArray} (h : OwnStrs w base A c xs) {a : Addr} (ha : a.block < base) (u : Value) : OwnStrs (w.setCell a u) base A c xs := ⟨ownsRow_setCell_below h.1 ha u, h.2⟩
theorem OwnStrs.nil_ (w : World) (base : Nat) : OwnStrs w base none 0 [] := ⟨World.ownsRow_nil _ _ _ _, fun x hx => by cases hx⟩
theorem OwnStrs.of_ {w : World} {base : Nat} {v : Value} {n : Nat} {xs : List ByteArray} {vs : List Value} (h : w.ownsRow base 9 1 v n vs) (hv : vs = xs.map Value.string) (hn : n = xs.length) (hx : ∀ x ∈ xs, x.size ≤ 9223372036854775807) :
    ∃ A c, v = .slice A xs.length c ∧ OwnStrs w base A c xs := by
  subst hv hn
  rcases h.2 with ⟨hv, hn⟩ | ⟨g, cap, cur, hv, _⟩
  · subst hv
    have : xs = [] := List.eq_nil_of_length_eq_zero hn
    subst this
    exact ⟨none, 0, rfl, OwnStrs.nil_ _ _⟩
  · subst hv
    exact ⟨_, _, rfl, h, hx⟩
/-- Names are handed back, in memory of the call's own. -/
def RetStrs (xs : List ByteArray) (w : World) (e : Ending) (w' : World) : Prop :=
  ∃ A c, e = .returned (.slice A xs.length c) ∧ OwnStrs w' w.heap.size A c xs ∧ Below w.heap.size w w'

/-- Two cells of one block (a flow, a run). -/
structure Cell2 (w : World) (b : Nat) (x y : Value) : Prop where
  c0 : w.cell? ⟨b, 0, none⟩ = some x
  c1 : w.cell? ⟨b, 1, none⟩ = some y
theorem Cell2.lt {w : World} {b : Nat} {x y : Value} (h : Cell2 w b x y) : b < w.heap.size := World.block_lt_of_cell? w _ h.c0
theorem Cell2.then_ {w w' : World} {b : Nat} {x y : Value} (h : Cell2 w b x y) (hb : Below w.heap.size w w') : Cell2 w' b x y :=
  ⟨(hb.cell h.lt).trans h.c0, (hb.cell h.lt).trans h.c1⟩
theorem Cell2.new (w : World) (x y : Value) (t : TypeId) : Cell2 (w.alloc (.cells #[x, y] t)) w.heap.size x y :=
  ⟨by rw [cell_of_row _ w.heap.size 0 _ _ (0, 0) (heap_alloc_new w _)]; rfl, by rw [cell_of_row _ w.heap.size 1 _ _ (0, 0) (heap_alloc_new w _)]; rfl⟩
theorem Cell2.alloc {w : World} {b : Nat} {x y : Value} (h : Cell2 w b x y) (o : Obj) : Cell2 (w.alloc o) b x y := h.then_ ((Below.refl _ _).alloc (Nat.le_refl _) _)
theorem Cell2.drewN {w : World} {b : Nat} {x y : Value} (h : Cell2 w b x y) (n : Nat) : Cell2 (w.drewN n) b x y := ⟨h.c0, h.c1⟩
theorem Cell2.setCell {w : World} {b : Nat} {x y : Value} (h : Cell2 w b x y) {p : Addr} (hp : p.block ≠ b) (u : Value) : Cell2 (w.setCell p u) b x y :=
  ⟨(World.cell?_setCell_other w p _ u (fun e => hp (by subst e; rfl))).trans h.c0, (World.cell?_setCell_other w p _ u (fun e => hp (by subst e; rfl))).trans h.c1⟩

/-- Three cells of one block (a step). -/
structure Cell3 (w : World) (b : Nat) (x y z : Value) : Prop where
  c0 : w.cell? ⟨b, 0, none⟩ = some x
  c1 : w.cell? ⟨b, 1, none⟩ = some y
  c2 : w.cell? ⟨b, 2, none⟩ = some z
theorem Cell3.lt {w : World} {b : Nat} {x y z : Value} (h : Cell3 w b x y z) : b < w.heap.size := World.block_lt_of_cell? w _ h.c0
theorem Cell3.then_ {w w' : World} {b : Nat} {x y z : Value} (h : Cell3 w b x y z) (hb : Below w.heap.size w w') : Cell3 w' b x y z :=
  ⟨(hb.cell h.lt).trans h.c0, (hb.cell h.lt).trans h.c1, (hb.cell h.lt).trans h.c2⟩
theorem Cell3.new (w : World) (x y z : Value) (t : TypeId) : Cell3 (w.alloc (.cells #[x, y, z] t)) w.heap.size x y z :=
  ⟨by rw [cell_of_row _ w.heap.size 0 _ _ (0, 0) (heap_alloc_new w _)]; rfl, by rw [cell_of_row _ w.heap.size 1 _ _ (0, 0) (heap_alloc_new w _)]; rfl, by rw [cell_of_row _ w.heap.size 2 _ _ (0, 0) (heap_alloc_new w _)]; rfl⟩
theorem Cell3.alloc {w : World} {b : Nat} {x y z : Value} (h : Cell3 w b x y z) (o : Obj) : Cell3 (w.alloc o) b x y z := h.then_ ((Below.refl _ _).alloc (Nat.le_refl _) _)

/-- The slice value '.slice A zs.length c' holds the bytes zs, below block B. -/
structure Byts (w : World) (B : Nat) (A : Option Addr) (c : Nat) (zs : List Int) : Prop where
  len : zs.length ≤ c
  cap : c ≤ 9223372036854775807
  range : ∀ j (h : j < zs.length), 0 ≤ zs[j] ∧ zs[j] ≤ 255
  cells : 0 < zs.length → ∃ ad, A = some ad ∧ ad.block < B ∧ ∀ j (h : j < zs.length), w.cell? (ad.add j) = some (.int .u8 zs[j])

section
variable {w w' : World} {B B' c : Nat} {A : Option Addr} {zs : List Int}
theorem Byts.nil_ : Byts w B none 0 [] := ⟨by simp, by omega, fun j h => absurd h (by simp), fun h => absurd h (by simp)⟩
theorem Byts.at_ {k : Nat} (h : Byts w B A c zs) (hk : k < zs.length) : ∃ ad, A = some ad ∧ ad.block < B ∧ w.cell? (ad.add k) = some (.int .u8 zs[k]) := by
  obtain ⟨ad, e, hb, hc⟩ := h.cells (by omega)
  exact ⟨ad, e, hb, hc k hk⟩
theorem Byts.keep (h : Byts w B A c zs) (hk : ∀ p : Addr, p.block < B → w'.cell? p = w.cell? p) : Byts w' B A c zs :=
  ⟨h.len, h.cap, h.range, fun hn => by
    obtain ⟨ad, e, hb, hc⟩ := h.cells hn
    exact ⟨ad, e, hb, fun j hj => (hk _ (by rw [block_of_add]; exact hb)).trans (hc j hj)⟩⟩
theorem Byts.below (h : Byts w B A c zs) (hb : Below B w w') : Byts w' B A c zs := h.keep fun _ hp => hb.cell hp
theorem Byts.more (h : Byts w B A c zs) (hB : B ≤ B') : Byts w B' A c zs :=
  ⟨h.len, h.cap, h.range, fun hn => by
    obtain ⟨ad, e, hb, hc⟩ := h.cells hn
    exact ⟨ad, e, by omega, hc⟩⟩
theorem Byts.take (h : Byts w B A c zs) (k : Nat) : Byts w B A c (zs.take k) := by
  refine ⟨Nat.le_trans (by simp; omega) h.len, h.cap, fun j hj => ?_, fun hn => ?_⟩
  · rw [List.getElem_take]; exact h.range _ _
  · obtain ⟨ad, e, hb, hc⟩ := h.cells (by simp at hn; omega)
    exact ⟨ad, e, hb, fun j hj => by rw [List.getElem_take]; exact hc j _⟩
end

/-- The reader of a code: block g is the struct: a slice of bytes that lie below B, and the place p. -/
structure Rdr (w : World) (B g : Nat) (A : Option Addr) (c : Nat) (zs : List Int) (p : Nat) : Prop where
  blk : w.heap[g]? = some (.cells #[.slice A zs.length c, .int .i64 p] 65 (0, 0))
  bytes : Byts w B A c zs
  lim : zs.length ≤ 2000
  low : B ≤ g

section
variable {w w' : World} {B g c p : Nat} {A : Option Addr} {zs : List Int}
theorem Rdr.lt (h : Rdr w B g A c zs p) : g < w.heap.size := by
  rcases Nat.lt_or_ge g w.heap.size with hlt | hge
  · exact hlt
  · have hb := h.blk
    rw [Array.getElem?_eq_none hge] at hb; cases hb
theorem Rdr.cell0 (h : Rdr w B g A c zs p) : w.cell? ⟨g, 0, none⟩ = some (.slice A zs.length c) := by
  rw [cell_of_row w g 0 _ _ (0, 0) h.blk]; rfl
theorem Rdr.cell1 (h : Rdr w B g A c zs p) : w.cell? ⟨g, 1, none⟩ = some (.int .i64 p) := by
  rw [cell_of_row w g 1 _ _ (0, 0) h.blk]; rfl
theorem Rdr.free (h : Rdr w B g A c zs p) (i : Nat) : w.frozen? ⟨g, i, none⟩ = false := by
  have := h.blk
  simp [World.frozen?, this]
theorem Rdr.keep (h : Rdr w B g A c zs p) (hk : ∀ k, k ≤ g → w'.heap[k]? = w.heap[k]?) : Rdr w' B g A c zs p :=
  ⟨(hk g (Nat.le_refl _)).trans h.blk, h.bytes.keep fun p hp => World.cell?_of_block (w := w) (hk p.block (by have := h.low; omega)), h.lim, h.low⟩
theorem Rdr.below {B0 : Nat} (h : Rdr w B g A c zs p) (hb : Below B0 w w') (hg : g < B0) : Rdr w' B g A c zs p := h.keep fun k hk => hb.block k (by omega)
theorem Rdr.step (h : Rdr w B g A c zs p) : Rdr (w.setCell ⟨g, 1, none⟩ (.int .i64 (p + 1 : Nat))) B g A c zs (p + 1) := by
  refine ⟨?_, h.bytes.keep fun q hq => World.cell?_setCell_other w _ q _ (fun e => by have := h.low; subst e; simp at hq; omega), h.lim, h.low⟩
  have := h.blk
  simp [World.setCell, Array.getElem?_modify, this]
end
end Go.Proofs.YtfodedakhnoplaaDoor
