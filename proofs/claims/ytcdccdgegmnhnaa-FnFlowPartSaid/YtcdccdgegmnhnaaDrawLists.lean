/- Contracts of the draws of lists of names: l91Names, DrawNamesHave. Condition: the place is small. -/
import Derived.Test.YtcdccdgegmnhnaaDrawNames
import Derived.Test.YtcdccdgegmnhnaaAppend
import Derived.Deep.RegionWith
namespace Go.Proofs.Ytcdccdgegmnhnaa
set_option linter.unusedVariables false
set_option maxRecDepth 100000
open Go.RowKit

/-- Names are drawn: at most five, of at most six bytes each; in memory of the call's own. -/
def DrawnStrs (B g : Nat) (A : Option Addr) (c : Nat) (zs : List Int) (p K : Nat) (w : World) (e : Ending) (w' : World) : Prop :=
  ∃ (A' : Option Addr) (c' : Nat) (xs : List ByteArray) (p' : Nat), e = .returned (.slice A' xs.length c') ∧ OwnStrs w' w.heap.size A' c' xs ∧ xs.length ≤ 5 ∧ (∀ x ∈ xs, x.size ≤ 6) ∧ p' ≤ p + K ∧ Rdr w' B g A c zs p' ∧ w.grownBy w' (some g)

theorem grown_low {w a b : World} {g base : Nat} (h : w.grownBy a (some g)) (hbase : w.heap.size ≤ base) (k : Below base a b) : w.grownBy b (some g) :=
  ⟨k.os.trans h.os, k.tape.trans h.tape, k.output.trans h.output, Nat.le_trans h.size k.size, fun i hi hne => (k.block i (by omega)).trans (h.block i hi hne)⟩

theorem own_grown {w w' : World} {base g : Nat} {A : Option Addr} {c : Nat} {xs : List ByteArray} (h : OwnStrs w base A c xs) (hg : w.grownBy w' (some g)) (hlt : g < base) : OwnStrs w' base A c xs :=
  ⟨h.1.kept hg (by
    cases hA : A with
    | none => exact .inl rfl
    | some a =>
      right
      intro e
      have := h.1.lt a.block (by rw [hA]; rfl)
      have e' : some a.block = some g := e
      injection e' with e'
      omega), h.2⟩

set_option maxHeartbeats 1000000 in
theorem l91Names_any (B g : Nat) (A : Option Addr) (c : Nat) (zs : List Int) (p : Nat) (w : World) (h : Rdr w B g A c zs p) (hp : p ≤ 800000) :
    Calls Try.prog 31 #[.pointer (some ⟨g, 0, none⟩)] w (DrawnStrs B g A c zs p 20 w) := by
  have hgl := h.lt
  go_enter Try.func31, Try.ntmps31
  go_wp2_with fail
  refine (pick_any B g A c zs p _ _ (h.alloc _) (by omega)).mono ?_
  rintro e w1 ⟨v, rfl, hv0, hv1, hr1, hg1⟩
  have hv5 : v ≤ 5 := by omega
  have hsz : w.heap.size ≤ w1.heap.size := by have := hg1.size; simp at this; omega
  have hg1' : w.grownBy w1 (some g) := grown_trans (World.grownBy_alloc _ _ _) hg1
  have ho1 : OwnStrs w1 w.heap.size (some ⟨w.heap.size, 0, none⟩) 0 [] := by
    refine own_grown ?_ hg1 hgl
    exact ⟨World.ownsRow_lit w #[] 0 (Nat.le_refl _) (by simp only [maxLen]; omega) rfl, fun x hx => by cases hx⟩
  clear hg1 hv1
  go_wp2_with fail
  go_loopw [3, 5] (fun out i wr => ∃ (k : Nat) (xs : List ByteArray) (A' : Option Addr) (c' p' : Nat), (k : Int) ≤ v ∧ i = .int .i64 k ∧ xs.length ≤ k ∧ k ≤ xs.length ∧ out = .slice A' xs.length c' ∧ OwnStrs wr w.heap.size A' c' xs ∧ (∀ x ∈ xs, x.size ≤ 6) ∧ p' ≤ p + 1 + 2 * k ∧
    Rdr wr B g A c zs p' ∧ w.grownBy wr (some g)) (fun _ i _ => v.toNat - (intOf i).toNat)
  case atStart => exact ⟨0, [], _, 0, p + 1, hv0, rfl, Nat.le_refl _, Nat.le_refl _, rfl, ho1, (fun x hx => by cases hx), by omega, hr1, hg1'⟩
  case round =>
    obtain ⟨k, xs, A', c', p', hk, rfl, hx0, hx1, rfl, ho, hx6, hp', hr, hg⟩ := hrel
    by_cases hlt : (k : Int) < v
    · go_wp2_with fail
      refine (l91Name_any B g A c zs p' _ hr (by omega)).mono ?_
      rintro e w2 ⟨s, p2, rfl, hs6, hp2, hr2, hg2⟩
      have hsz2 : w.heap.size ≤ w2.heap.size := by have := hg.size; have := hg2.size; omega
      have ho2 := (own_grown ho hg2 hgl).alloc (.cells #[.string s] 9)
      have hg3 := grown_trans hg hg2
      go_wp2_with (at_builtin; (refine wpList_append_name _ rfl (.tmp 14) (.tmp 17) rfl w.heap.size A' c' xs rfl ho2 ⟨w2.heap.size, 0, none⟩ 1 s rfl (cell_new1 _ _ _) (by omega) (by omega) (by simp; omega) ?_); intro A3 c3 w3 hap)
      go_roundw
      case rel =>
        obtain ⟨hown, hlow, hgr, _⟩ := hap
        refine ⟨k + 1, xs ++ [s], A3, c3, p2, by omega, by go_num, by simp; omega, by simp; omega, by simp, hown, ?_, by omega, ?_, ?_⟩
        · intro x hx
          rcases List.mem_append.1 hx with hx | hx
          · exact hx6 x hx
          · simp at hx; subst hx; exact hs6
        · exact (hr2.alloc _).below hlow hgl
        · exact grown_low (grown_alloc hg3 _) (Nat.le_refl _) hlow
      case measure => simp [intOf]; omega
    · go_wp2_with fail
      go_ret
      exact ⟨A', c', xs, p', rfl, ho, by omega, hx6, by omega, hr, hg⟩
/-- Two lists of names are drawn from a code. -/
def DrawnTwo (w : World) (e : Ending) (w' : World) : Prop :=
  ∃ (A1 A2 : Option Addr) (c1 c2 : Nat) (xs ys : List ByteArray), e = .returned (.tuple #[.slice A1 xs.length c1, .slice A2 ys.length c2]) ∧ OwnStrs w' w.heap.size A1 c1 xs ∧ OwnStrs w' w.heap.size A2 c2 ys ∧
    xs.length ≤ 5 ∧ ys.length ≤ 5 ∧ (∀ x ∈ xs, x.size ≤ 6) ∧ (∀ y ∈ ys, y.size ≤ 6) ∧ Below w.heap.size w w'

/-- pick of a place in a list that is there. -/
theorem pickIn_any (B g : Nat) (A : Option Addr) (c : Nat) (zs : List Int) (p : Nat) (ga : Nat) (xs : List ByteArray) (w : World) (h : Rdr w B g A c zs p) (hp : p ≤ 1000000) (h0 : 0 < xs.length) (hne : ga ≠ g)
    (hcell : Hid (∀ j (hj : j < xs.length), w.cell? ⟨ga, j, none⟩ = some (.string xs[j]))) :
    Calls Try.prog 46 #[.pointer (some ⟨g, 0, none⟩), .int .i64 xs.length] w fun e w' => ∃ (k : Nat) (hk : k < xs.length), e = .returned (.int .i64 k) ∧ w'.cell? ⟨ga, k, none⟩ = some (.string xs[k]) ∧
      w'.cell? ⟨ga, 0, none⟩ = some (.string xs[0]) ∧ Rdr w' B g A c zs (p + 1) ∧ w.grownBy w' (some g) := by
  refine (pick_any B g A c zs p _ w h hp).mono ?_
  rintro e w1 ⟨v, rfl, hv0, hv1, hr1, hg1⟩
  obtain ⟨k, rfl⟩ := Int.eq_ofNat_of_zero_le hv0
  have hk : k < xs.length := by omega
  exact ⟨k, hk, rfl, hg1.cell (hcell.out k hk) (by simpa using hne), hg1.cell (hcell.out 0 h0) (by simpa using hne), hr1, hg1⟩

theorem own_form {w : World} {base : Nat} {A : Option Addr} {c : Nat} {xs : List ByteArray} (h : OwnStrs w base A c xs) (h0 : 0 < xs.length) :
    ∃ ga, A = some ⟨ga, 0, none⟩ ∧ base ≤ ga ∧ ga < w.heap.size ∧ ∀ j (hj : j < xs.length), w.cell? ⟨ga, j, none⟩ = some (.string xs[j]) := by
  rcases h.1.2 with ⟨_, hn⟩ | ⟨ga, cap, cur, hv, hg, hh, _⟩
  · omega
  · injection hv with h1 h2 h3
    subst h1 h3
    refine ⟨ga, rfl, hg, (Array.getElem?_eq_some_iff.1 hh).1, fun j hj => ?_⟩
    rw [h.1.cellAt j (by omega)]
    simp [List.getElem?_eq_getElem hj]

theorem own_lit2 (w : World) (base : Nat) (x y : ByteArray) (hx : x.size ≤ 9223372036854775807) (hy : y.size ≤ 9223372036854775807) (hb : base ≤ w.heap.size) :
    OwnStrs (w.alloc (.cells #[.string x, .string y] 9)) base (some ⟨w.heap.size, 0, none⟩) 2 [x, y] :=
  ⟨World.ownsRow_lit w #[.string x, .string y] 2 hb (by simp only [maxLen]; omega) rfl, fun z hz => by
    simp only [List.mem_cons, List.not_mem_nil, or_false] at hz
    rcases hz with rfl | rfl <;> assumption⟩

end Go.Proofs.Ytcdccdgegmnhnaa
