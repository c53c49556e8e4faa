/- What is known behind a statement that appends a name to a copy of a list and stores a run with it in a box, made at whatever time. No condition. -/
import Derived.Test.YtfkjcldaclkkaaaCutRun
import Derived.Test.YtfkjcldaclkkaaaAppend2
import Derived.Test.YtfkjcldaclkkaaaFlowFns
import Derived.Test.YtfkjcldaclkkaaaDrawFlow
namespace Go.Proofs.Ytfkjcldaclkkaaa
set_option linter.unusedVariables false
set_option maxRecDepth 100000
open Go.RowKit

theorem own_apart {w : World} {base b c : Nat} {A : Option Addr} {xs : List ByteArray} {x y : Value} (h : OwnStrs w base A c xs) (hb : RBox w b x y) : ∀ q, A = some q → q.block ≠ b := by
  intro q e hq
  rcases h.1.2 with ⟨hv, _⟩ | ⟨g, cap, cur, hv, hg, hh, _⟩
  · injection hv with h1 _ _
    rw [e] at h1; cases h1
  · injection hv with h1 _ _
    rw [e] at h1
    injection h1 with h1
    subst h1
    have hq : g = b := hq
    subst hq
    unfold RBox at hb
    rw [hb] at hh
    injection hh with hh
    injection hh with _ ht _
    exact absurd ht (by decide)
theorem RBox.overApp {w w' : World} {base b c : Nat} {A : Option Addr} {xs : List ByteArray} {x y : Value} (h : RBox w b x y) (ho : OwnStrs w base A c xs) (hg : w.grownBy w' (A.map (·.block))) : RBox w' b x y :=
  (hg.block b h.lt (fun e => by
    cases A with
    | none => cases e
    | some q => injection e with e; exact own_apart ho h q rfl e.symm)).trans h
theorem OwnStrs.setFar {w : World} {base : Nat} {A : Option Addr} {c : Nat} {xs : List ByteArray} (h : OwnStrs w base A c xs) {p : Addr} (hne : ∀ q, A = some q → q.block ≠ p.block) (u : Value) : OwnStrs (w.setCell p u) base A c xs :=
  ⟨row_move h.1 fun k e => by
    cases A with
    | none => cases e
    | some q =>
      have e : q.block = k := by injection e
      exact Below.heap_setCell _ _ _ _ (by rw [← e]; exact hne q rfl), h.2⟩
theorem cut_app {W0 wK : World} {st : Int} {out : List ByteArray} {n b c : Nat} {A : Option Addr} {x y : Value} (hn : Hid (n = out.length)) (hb : Below W0.heap.size W0 wK) (bx : RBox wK b x y) (hW : W0.heap.size ≤ b) (ho : OwnStrs wK W0.heap.size A c out) :
    CutRun W0 st out W0.heap.size (.pointer (some ⟨b, 0, none⟩)) ((wK.setCell ⟨b, 0, none⟩ (.int .i64 st)).setCell ⟨b, 1, none⟩ (.slice A n c)) := by
  have hn := hn.out
  subst hn
  refine ⟨b, A, c, rfl, bx.set _ _, hW, by simpa using bx.lt, (ho.setFar (p := ⟨b, 0, none⟩) (own_apart ho bx) _).setFar (p := ⟨b, 1, none⟩) (own_apart ho bx) _, fun e => ?_, (hb.setCell hW _).setCell hW _⟩
  cases A with
  | none => cases e
  | some p => injection e with e; exact own_apart ho bx p rfl e.symm
theorem cut_appl {W0 wK : World} {st : Int} {out : List ByteArray} {n c : Nat} {A : Option Addr} (hn : Hid (n = out.length)) (hb : Below W0.heap.size W0 wK) (ho : OwnStrs wK W0.heap.size A c out) :
    CutRun W0 st out W0.heap.size (.pointer (some ⟨wK.heap.size, 0, none⟩)) (wK.alloc (.cells #[.int .i64 st, .slice A n c] 52)) := by
  have hn := hn.out
  subst hn
  exact cut_last hb ho (Nat.le_refl _) hb.size
theorem cell_dr_ {w : World} {p : Addr} {v : Value} (h : w.cell? p = some v) : w.drew.cell? p = some v := h
theorem own_lit_at (w : World) (base n : Nat) (hb : base ≤ w.heap.size) (hn : w.heap.size = n) : OwnStrs (w.alloc (.cells #[] 9)) base (some ⟨n, 0, none⟩) 0 [] := hn ▸ own_lit0 w base hb
theorem cell_lit_at (w : World) (X : ByteArray) (n : Nat) (hn : w.heap.size = n) : (w.alloc (.cells #[.string X] 9)).cell? ⟨n, 0, none⟩ = some (.string X) := hn ▸ cell_new1 w (.string X) 9
theorem OwnStrs.drw {w : World} {base : Nat} {A : Option Addr} {c : Nat} {xs : List ByteArray} (h : OwnStrs w base A c xs) : OwnStrs w.drew base A c xs := own_move h fun _ _ _ => rfl
end Go.Proofs.Ytfkjcldaclkkaaa
