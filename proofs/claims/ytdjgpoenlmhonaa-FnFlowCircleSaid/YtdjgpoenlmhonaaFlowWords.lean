/- Words for memory: a slice of steps that reads as a list. No condition. -/
import Derived.Test.YtdjgpoenlmhonaaWords
import Derived.Test.YtdjgpoenlmhonaaFlowPlain
namespace Go.Proofs.Ytdjgpoenlmhonaa
set_option linter.unusedVariables false
set_option maxRecDepth 100000
open Go.RowKit

/-- One step's cells at an address. -/
def StAt (w : World) (B : Nat) (p : Addr) (s : St) : Prop :=
  ∃ A c, w.cell? p = some (.string s.name) ∧ w.cell? ⟨p.block, p.off + 1, none⟩ = some (.slice A s.after.length c) ∧ w.cell? ⟨p.block, p.off + 2, none⟩ = some (.bool s.undo) ∧ Strs w B A c s.after

/-- The slice value '.slice A ss.length c' holds the steps ss, below block B. -/
structure Sts (w : World) (B : Nat) (A : Option Addr) (c : Nat) (ss : List St) : Prop where
  len : ss.length ≤ c
  cap : c ≤ 9223372036854775807
  lens : ∀ j (h : j < ss.length), ss[j].name.size ≤ 9223372036854775807
  cells : 0 < ss.length → ∃ ad, A = some ad ∧ ad.block < B ∧ ∀ j (h : j < ss.length), StAt w B (ad.add (j * 3)) ss[j]

section
variable {w w' : World} {B B' c : Nat} {A : Option Addr} {ss : List St}
theorem StAt.keep {p : Addr} {s : St} (h : StAt w B p s) (hp : p.block < B) (hk : ∀ p : Addr, p.block < B → w'.cell? p = w.cell? p) : StAt w' B p s := by
  obtain ⟨A, c, h0, h1, h2, h3⟩ := h
  exact ⟨A, c, (hk _ hp).trans h0, (hk ⟨p.block, p.off + 1, none⟩ hp).trans h1, (hk ⟨p.block, p.off + 2, none⟩ hp).trans h2, h3.keep hk⟩
theorem Sts.nil_ : Sts w B none 0 [] := ⟨by simp, by omega, fun j h => absurd h (by simp), fun h => absurd h (by simp)⟩
theorem Sts.at_ {k : Nat} (h : Sts w B A c ss) (hk : k < ss.length) : ∃ ad A' c', A = some ad ∧ ad.block < B ∧ w.cell? (ad.add (k * 3)) = some (.string ss[k].name) ∧
    w.cell? ⟨(ad.add (k * 3)).block, (ad.add (k * 3)).off + 1, none⟩ = some (.slice A' ss[k].after.length c') ∧ w.cell? ⟨(ad.add (k * 3)).block, (ad.add (k * 3)).off + 2, none⟩ = some (.bool ss[k].undo) ∧ Strs w B A' c' ss[k].after := by
  obtain ⟨ad, e, hb, hc⟩ := h.cells (by omega)
  obtain ⟨A', c', h0, h1, h2, h3⟩ := hc k hk
  exact ⟨ad, A', c', e, hb, h0, h1, h2, h3⟩
theorem Sts.keep (h : Sts w B A c ss) (hk : ∀ p : Addr, p.block < B → w'.cell? p = w.cell? p) : Sts w' B A c ss :=
  ⟨h.len, h.cap, h.lens, fun hn => by
    obtain ⟨ad, e, hb, hc⟩ := h.cells hn
    exact ⟨ad, e, hb, fun j hj => (hc j hj).keep (by rw [block_of_add]; exact hb) hk⟩⟩
theorem Sts.more (h : Sts w B A c ss) (hB : B ≤ B') : Sts w B' A c ss :=
  ⟨h.len, h.cap, h.lens, fun hn => by
    obtain ⟨ad, e, hb, hc⟩ := h.cells hn
    refine ⟨ad, e, by omega, fun j hj => ?_⟩
    obtain ⟨A', c', h0, h1, h2, h3⟩ := hc j hj
    exact ⟨A', c', h0, h1, h2, h3.more hB⟩⟩
theorem Sts.fit (h : Sts w B A c ss) : Sts w w.heap.size A c ss :=
  ⟨h.len, h.cap, h.lens, fun hn => by
    obtain ⟨ad, e, _, hc⟩ := h.cells hn
    refine ⟨ad, e, ?_, fun j hj => ?_⟩
    · obtain ⟨_, _, h0, _⟩ := hc 0 hn
      have := World.block_lt_of_cell? w _ h0
      rwa [block_of_add] at this
    · obtain ⟨A', c', h0, h1, h2, h3⟩ := hc j hj
      exact ⟨A', c', h0, h1, h2, h3.fit⟩⟩
theorem Sts.below (h : Sts w B A c ss) (hb : Below B w w') : Sts w' B A c ss := h.keep fun _ hp => hb.cell hp
theorem Sts.then_ (h : Sts w B A c ss) (hb : Below w.heap.size w w') : Sts w' w.heap.size A c ss := h.fit.below hb
theorem Sts.drew (h : Sts w B A c ss) : Sts w.drew B A c ss := h.keep fun _ _ => rfl
theorem Sts.drewN (h : Sts w B A c ss) (k : Nat) : Sts (w.drewN k) B A c ss := h.keep fun _ _ => rfl
theorem Sts.alloc (h : Sts w B A c ss) (hB : B ≤ w.heap.size) (o : Obj) : Sts (w.alloc o) B A c ss := h.keep fun p hp => World.cell?_alloc_lt w o p (by omega)
theorem Sts.setCell (h : Sts w B A c ss) {p : Addr} (hB : B ≤ p.block) (u : Value) : Sts (w.setCell p u) B A c ss :=
  h.keep fun q hq => World.cell?_setCell_other w p q u (fun e => by subst e; omega)
end
end Go.Proofs.Ytdjgpoenlmhonaa
