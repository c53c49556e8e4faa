/- Contracts of the draws of lists of names: l91Names, DrawNamesHave. Condition: the place is small. -/
import Derived.Test.YtdjgpoenlmhonaaDrawNames
import Derived.Test.YtdjgpoenlmhonaaAppend
import Derived.Deep.RegionWith
namespace Go.Proofs.Ytdjgpoenlmhonaa
set_option linter.unusedVariables false
set_option maxRecDepth 100000
open Go.RowKit

/-- Names are drawn: at most five, of at most six bytes each; in memory of the call's own. -/
def DrawnStrs (B g : Nat) (A : Option Addr) (c : Nat) (zs : List Int) (p K : Nat) (w : World) (e : Ending) (w' : World) : Prop :=
  ∃ (A' : Option Addr) (c' : Nat) (xs : List ByteArray) (p' : Nat), e = .returned (.slice A' xs.length c') ∧ OwnStrs w' w.heap.size A' c' xs ∧ xs.length ≤ 5 ∧ (∀ x ∈ xs, x.size ≤ 6) ∧ p' ≤ p + K ∧ Rdr w' B g A c zs p' ∧ w.grownBy w' (some g)

theorem grown_low {w a b : World} {g base : Nat} (h : w.grownBy a (some g)) (hbase : w.heap.size ≤ base) (k : Below base a b) : w.grownBy b (some g) :=
  ⟨k.os.trans h.os, k.tape.trans h.tape, k.output.trans h.output, Nat.le_trans h.size k.size, fun i hi hne => (k.block i (by omega)).trans (h.block i hi hne)⟩

theorem own_grown {w w' : World} {base g : Nat} {A : Option Addr} {c : Nat} {xs : List ByteArray} (h : OwnStrs w base A c xs) (hg : w.grownBy w' (some g)) (hlt : g < base) : OwnStrs w' base A c xs :=
  ⟨h.1.kept hg (by
    cases hA : A with
    | none => exact .inl rfl
    | some a =>
      right
      intro e
      have := h.1.lt a.block (by rw [hA]; rfl)
      have e' : some a.block = some g := e
      injection e' with e'
      omega), h.2⟩

/-- Two lists of names are drawn from a code. -/
def DrawnTwo (w : World) (e : Ending) (w' : World) : Prop :=
  ∃ (A1 A2 : Option Addr) (c1 c2 : Nat) (xs ys : List ByteArray), e = .returned (.tuple #[.slice A1 xs.length c1, .slice A2 ys.length c2]) ∧ OwnStrs w' w.heap.size A1 c1 xs ∧ OwnStrs w' w.heap.size A2 c2 ys ∧
    xs.length ≤ 5 ∧ ys.length ≤ 5 ∧ (∀ x ∈ xs, x.size ≤ 6) ∧ (∀ y ∈ ys, y.size ≤ 6) ∧ Below w.heap.size w w'

/-- pick of a place in a list that is there. -/
theorem pickIn_any (B g : Nat) (A : Option Addr) (c : Nat) (zs : List Int) (p : Nat) (ga : Nat) (xs : List ByteArray) (w : World) (h : Rdr w B g A c zs p) (hp : p ≤ 1000000) (h0 : 0 < xs.length) (hne : ga ≠ g)
    (hcell : Hid (∀ j (hj : j < xs.length), w.cell? ⟨ga, j, none⟩ = some (.string xs[j]))) :
    Calls Try.prog 11 #[.pointer (some ⟨g, 0, none⟩), .int .i64 xs.length] w fun e w' => ∃ (k : Nat) (hk : k < xs.length), e = .returned (.int .i64 k) ∧ w'.cell? ⟨ga, k, none⟩ = some (.string xs[k]) ∧
      w'.cell? ⟨ga, 0, none⟩ = some (.string xs[0]) ∧ Rdr w' B g A c zs (p + 1) ∧ w.grownBy w' (some g) := by
  refine (pick_any B g A c zs p _ w h hp).mono ?_
  rintro e w1 ⟨v, rfl, hv0, hv1, hr1, hg1⟩
  obtain ⟨k, rfl⟩ := Int.eq_ofNat_of_zero_le hv0
  have hk : k < xs.length := by omega
  exact ⟨k, hk, rfl, hg1.cell (hcell.out k hk) (by simpa using hne), hg1.cell (hcell.out 0 h0) (by simpa using hne), hr1, hg1⟩

theorem own_form {w : World} {base : Nat} {A : Option Addr} {c : Nat} {xs : List ByteArray} (h : OwnStrs w base A c xs) (h0 : 0 < xs.length) :
    ∃ ga, A = some ⟨ga, 0, none⟩ ∧ base ≤ ga ∧ ga < w.heap.size ∧ ∀ j (hj : j < xs.length), w.cell? ⟨ga, j, none⟩ = some (.string xs[j]) := by
  rcases h.1.2 with ⟨_, hn⟩ | ⟨ga, cap, cur, hv, hg, hh, _⟩
  · omega
  · injection hv with h1 h2 h3
    subst h1 h3
    refine ⟨ga, rfl, hg, (Array.getElem?_eq_some_iff.1 hh).1, fun j hj => ?_⟩
    rw [h.1.cellAt j (by omega)]
    simp [List.getElem?_eq_getElem hj]

theorem own_lit2 (w : World) (base : Nat) (x y : ByteArray) (hx : x.size ≤ 9223372036854775807) (hy : y.size ≤ 9223372036854775807) (hb : base ≤ w.heap.size) :
    OwnStrs (w.alloc (.cells #[.string x, .string y] 9)) base (some ⟨w.heap.size, 0, none⟩) 2 [x, y] :=
  ⟨World.ownsRow_lit w #[.string x, .string y] 2 hb (by simp only [maxLen]; omega) rfl, fun z hz => by
    simp only [List.mem_cons, List.not_mem_nil, or_false] at hz
    rcases hz with rfl | rfl <;> assumption⟩

end Go.Proofs.Ytdjgpoenlmhonaa
