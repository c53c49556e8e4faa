/- Words for the exact laws: what marks leave. No condition. -/
import Derived.Test.YtcdccdgegmnhnaaMarkFlow
namespace Go.Proofs.Ytcdccdgegmnhnaa
set_option linter.unusedVariables false
set_option maxRecDepth 100000
open Go.RowKit

theorem Cell2.betw {w w' : World} {b lo hi : Nat} {x y : Value} (h : Cell2 w b x y) (hb : Betw lo hi w w') (hl : b < lo ∨ hi ≤ b) : Cell2 w' b x y :=
  ⟨(World.cell?_of_block (w := w) (hb.block b h.lt hl)).trans h.c0, (World.cell?_of_block (w := w) (hb.block b h.lt hl)).trans h.c1⟩
theorem Cell3.betw {w w' : World} {b lo hi : Nat} {x y z : Value} (h : Cell3 w b x y z) (hb : Betw lo hi w w') (hl : b < lo ∨ hi ≤ b) : Cell3 w' b x y z :=
  ⟨(World.cell?_of_block (w := w) (hb.block b h.lt hl)).trans h.c0, (World.cell?_of_block (w := w) (hb.block b h.lt hl)).trans h.c1, (World.cell?_of_block (w := w) (hb.block b h.lt hl)).trans h.c2⟩
/-- A mark of names that lay, when they were made, between lo and hi. -/
theorem mark_betw {w0 w w' : World} {base lo : Nat} {A : Option Addr} {c : Nat} {xs : List ByteArray} (h : OwnStrs w0 base A c xs) (hg : w.grownBy w' (A.map (·.block))) (hb : lo ≤ base) : Betw lo w0.heap.size w w' :=
  (Betw.refl _ _ _).grown hg fun k hk => by
    cases A with
    | none => cases hk
    | some p =>
      injection hk with hk
      have := h.block_
      subst hk
      exact ⟨Nat.le_trans hb this.1, this.2⟩
theorem Sts.alloc2 {w : World} {B c : Nat} {A : Option Addr} {ss : List St} (h : Sts w B A c ss) (o : Obj) : Sts (w.alloc o) w.heap.size A c ss := h.fit.alloc (Nat.le_refl _) o
theorem Strs.alloc2 {w : World} {B c : Nat} {A : Option Addr} {xs : List ByteArray} (h : Strs w B A c xs) (o : Obj) : Strs (w.alloc o) w.heap.size A c xs := h.fit.alloc (Nat.le_refl _) o
theorem eqStringS_same (A A' : Option Addr) (c c' : Nat) (xs : List ByteArray) (w : World) (B B' : Nat) (h : Strs w B A c xs) (h' : Strs w B' A' c' xs) :
    Calls Try.prog 17 #[.slice A xs.length c, .slice A' xs.length c'] w fun e w' => e = .returned (.bool true) ∧ Below w.heap.size w w' :=
  (eqStringS_any A A' c c' xs xs w B B' h h').mono fun e w' ⟨he, hb⟩ => ⟨he.trans (ret_bool (decide_eq_true rfl)), hb⟩
end Go.Proofs.Ytcdccdgegmnhnaa
