/- Contracts of the reader of a code: l6Open, pick, of. Condition: the place is small. -/
import Derived.Test.YtfodedakhnoplaaDoorRows
import Derived.WalkKit
import Derived.WalkSpells
import Derived.WalkLawsBesides
import Derived.Deep.QuietTactic
import Derived.BigQuiet
import Derived.Test.YtfodedakhnoplaaDoorWords
namespace Go.Proofs.YtfodedakhnoplaaDoor
set_option linter.unusedVariables false
set_option maxRecDepth 100000
open Go.RowKit

/-- pick: a number from 0 to n - 1; the place goes on by one; nothing else turns. -/
def Picked (B g : Nat) (A : Option Addr) (c : Nat) (zs : List Int) (p : Nat) (n : Int) (w : World) (e : Ending) (w' : World) : Prop :=
  ∃ v : Int, e = .returned (.int .i64 v) ∧ 0 ≤ v ∧ (v < n ∨ v = 0) ∧ Rdr w' B g A c zs (p + 1) ∧ w.grownBy w' (some g)

theorem step_grown {w : World} {g : Nat} {u : Value} : w.grownBy (w.setCell ⟨g, 1, none⟩ u) (some g) :=
  ⟨rfl, rfl, rfl, by simp [World.setCell], fun k _ hk => Below.heap_setCell _ _ _ _ (fun e => hk (by rw [e]))⟩

theorem bits_xor_i64_nat (a b : Nat) (ha : a < 9223372036854775808) (hb : b < 9223372036854775808) :
    bits .xor .i64 (a : Int) (b : Int) = ((a ^^^ b : Nat) : Int) := by
  have hx : a ^^^ b < 2 ^ 63 := Nat.xor_lt_two_pow (by omega) (by omega)
  have h1 : (BitVec.ofInt 64 (a : Int)).toNat = a := by
    rw [BitVec.ofInt_natCast, BitVec.toNat_ofNat]; exact Nat.mod_eq_of_lt (by omega)
  have h2 : (BitVec.ofInt 64 (b : Int)).toNat = b := by
    rw [BitVec.ofInt_natCast, BitVec.toNat_ofNat]; exact Nat.mod_eq_of_lt (by omega)
  show IntKind.i64.wrap ((BitVec.ofInt 64 (a : Int) ^^^ BitVec.ofInt 64 (b : Int)).toNat : Int) = _
  rw [BitVec.toNat_xor, h1, h2]
  exact IntWalk.i64_in _ (by omega)
theorem xor_nonneg (a : Int) (h : 0 ≤ a) (hm : a ≤ 9223372036854775807) : 0 ≤ bits .xor .i64 a (wrap64 (a.tdiv 64)) := by
  obtain ⟨x, rfl⟩ := Int.eq_ofNat_of_zero_le h
  have e : wrap64 ((x : Int).tdiv 64) = ((x / 64 : Nat) : Int) := by
    rw [← IntWalk.i64_left, IntWalk.i64_quo _ _ (by omega)]
    rfl
  rw [e, bits_xor_i64_nat _ _ (by omega) (by omega)]
  omega
theorem pick_last (z1 z2 p q n : Int) (h1 : 0 ≤ z1) (h1' : z1 ≤ 255) (h2 : 0 ≤ z2) (h2' : z2 ≤ 255) (hp : 0 ≤ p) (hp' : p ≤ 1000000) (hq : 1 ≤ q) (hn : 1 ≤ n) :
    0 ≤ (bits .xor .i64 (wrap64 (z1 * 131 + z2 * 1117 + p * 29 + wrap64 (wrap64 (p / q) * 53))) (wrap64 ((wrap64 (z1 * 131 + z2 * 1117 + p * 29 + wrap64 (wrap64 (p / q) * 53))).tdiv 64))).tmod n ∧
    (bits .xor .i64 (wrap64 (z1 * 131 + z2 * 1117 + p * 29 + wrap64 (wrap64 (p / q) * 53))) (wrap64 ((wrap64 (z1 * 131 + z2 * 1117 + p * 29 + wrap64 (wrap64 (p / q) * 53))).tdiv 64))).tmod n < n := by
  have hd := IntWalk.tdiv_le p q hp hq
  generalize p / q = d at *
  have e1 : wrap64 d = d := IntWalk.wrap64_in _ (by omega)
  rw [e1]
  have e2 : wrap64 (d * 53) = d * 53 := IntWalk.wrap64_in _ (by omega)
  rw [e2]
  have e3 : wrap64 (z1 * 131 + z2 * 1117 + p * 29 + d * 53) = z1 * 131 + z2 * 1117 + p * 29 + d * 53 := IntWalk.wrap64_in _ (by omega)
  rw [e3]
  have := xor_nonneg (z1 * 131 + z2 * 1117 + p * 29 + d * 53) (by omega) (by omega)
  generalize bits BinOp.xor IntKind.i64 (z1 * 131 + z2 * 1117 + p * 29 + d * 53) (wrap64 ((z1 * 131 + z2 * 1117 + p * 29 + d * 53).tdiv 64)) = X at *
  rw [IntWalk.rem_in X n this]
  exact ⟨Int.emod_nonneg _ (by omega), Int.emod_lt_of_pos _ (by omega)⟩
theorem Rdr.drewN {w : World} {B g c p : Nat} {A : Option Addr} {zs : List Int} (h : Rdr w B g A c zs p) (n : Nat) : Rdr (w.drewN n) B g A c zs p := h.keep fun _ _ => rfl
theorem grown_drewN {w w' : World} {r : Option Nat} (h : w.grownBy w' r) (n : Nat) : w.grownBy (w'.drewN n) r := ⟨h.os, h.tape, h.output, h.size, h.block⟩

/-- What a pick gives is fixed by the code, the place and the number. -/
def PickFix (zs : List Int) (p : Nat) (n v : Int) : Prop :=
  ∀ (B g : Nat) (A : Option Addr) (c : Nat) (w : World), Rdr w B g A c zs p → p ≤ 1000000 →
    Calls Tryd.prog 27 #[.pointer (some ⟨g, 0, none⟩), .int .i64 n] w fun e w' => e = .returned (.int .i64 v) ∧ Rdr w' B g A c zs (p + 1) ∧ w.grownBy w' (some g)

set_option maxHeartbeats 400000 in
theorem pick_fix (zs : List Int) (p : Nat) (n : Int) : ∃ v : Int, 0 ≤ v ∧ (v < n ∨ v = 0) ∧ PickFix zs p n v := by
  by_cases hn : n < 1
  · refine ⟨0, by omega, .inr rfl, fun B g A c w h hp => ?_⟩
    have h0 := h.cell0
    have h1 := h.cell1
    have hf := h.free 1
    have hl := h.lim
    go_enter Tryd.func27, Tryd.ntmps27
    go_wp2
    go_ret
    exact ⟨rfl, h.step, step_grown⟩
  · by_cases hz : zs.length = 0
    · have hz' : ((zs.length : Int) == 0) = true := by simp [hz]
      have Hz := Lib.hid hz
      clear hz
      refine ⟨0, by omega, .inr rfl, fun B g A c w h hp => ?_⟩
      have h0 := h.cell0
      have h1 := h.cell1
      have hf := h.free 1
      have hl := h.lim
      go_enter Tryd.func27, Tryd.ntmps27
      go_wp2
      go_ret
      exact ⟨rfl, h.step, step_grown⟩
    · have hz' : ((zs.length : Int) == 0) = false := by simpa using hz
      have hz0 : 0 < zs.length := by omega
      clear hz
      by_cases hlt : p < zs.length
      · by_cases hr0 : 0 ≤ zs[p] ∧ zs[p] ≤ 255
        · obtain ⟨z, hz⟩ : ∃ z, z = zs[p] := ⟨_, rfl⟩
          rw [← hz] at hr0
          obtain ⟨hr0, hr1⟩ := hr0
          refine ⟨z % n, Int.emod_nonneg _ (by omega), .inl (Int.emod_lt_of_pos _ (by omega)), fun B g A c w h hp => ?_⟩
          have h0 := h.cell0
          have h1 := h.cell1
          have hf := h.free 1
          have hl := h.lim
          obtain ⟨ad, rfl, hb, hcell⟩ := h.bytes.at_ hlt
          have hc' : ∀ u, (w.setCell ⟨g, 1, none⟩ u).cell? (ad.add p) = some (.int .u8 zs[p]) := fun u =>
            (World.cell?_setCell_other w _ _ _ (fun e => by have := h.low; have := congrArg Addr.block e; rw [block_of_add] at this; simp at this; omega)).trans hcell
          clear hcell
          rw [← hz] at hc'
          clear hz
          go_enter Tryd.func27, Tryd.ntmps27
          go_wp2
          go_ret
          exact ⟨rfl, h.step, step_grown⟩
        · exact ⟨0, by omega, .inr rfl, fun B g A c w h hp => absurd (h.bytes.range p hlt) hr0⟩
      · have hm1 : p % zs.length < zs.length := Nat.mod_lt _ hz0
        have hm2 : (p * 7 + 3) % zs.length < zs.length := Nat.mod_lt _ hz0
        by_cases hr : (0 ≤ zs[p % zs.length] ∧ zs[p % zs.length] ≤ 255) ∧ (0 ≤ zs[(p * 7 + 3) % zs.length] ∧ zs[(p * 7 + 3) % zs.length] ≤ 255) ∧ p ≤ 1000000
        · obtain ⟨hr1, hr2, hp⟩ := hr
          obtain ⟨z1, hz1⟩ : ∃ z, z = zs[p % zs.length] := ⟨_, rfl⟩
          obtain ⟨z2, hz2⟩ : ∃ z, z = zs[(p * 7 + 3) % zs.length] := ⟨_, rfl⟩
          rw [← hz1] at hr1
          rw [← hz2] at hr2
          obtain ⟨hr10, hr11⟩ := hr1
          obtain ⟨hr20, hr21⟩ := hr2
          have hl0 := pick_last z1 z2 p zs.length n hr10 hr11 hr20 hr21 (by omega) (by omega) (by omega) (by omega)
          refine ⟨_, hl0.1, .inl hl0.2, fun B g A c w h _ => ?_⟩
          have h0 := h.cell0
          have h1 := h.cell1
          have hf := h.free 1
          have hl := h.lim
          obtain ⟨ad, rfl, hb, hcell⟩ := h.bytes.cells hz0
          have hc1 : ∀ u, (w.setCell ⟨g, 1, none⟩ u).cell? (ad.add (p % zs.length)) = some (.int .u8 zs[p % zs.length]) := fun u =>
            (World.cell?_setCell_other w _ _ _ (fun e => by have := h.low; have := congrArg Addr.block e; rw [block_of_add] at this; simp at this; omega)).trans (hcell _ hm1)
          have hc2 : ∀ u, (w.setCell ⟨g, 1, none⟩ u).cell? (ad.add ((p * 7 + 3) % zs.length)) = some (.int .u8 zs[(p * 7 + 3) % zs.length]) := fun u =>
            (World.cell?_setCell_other w _ _ _ (fun e => by have := h.low; have := congrArg Addr.block e; rw [block_of_add] at this; simp at this; omega)).trans (hcell _ hm2)
          rw [← hz1] at hc1
          rw [← hz2] at hc2
          clear hz1 hz2 hcell hl0
          have hne : ¬ zs = [] := fun e => by rw [e] at hz0; simp at hz0
          have hp0 : 0 ≤ (p : Int) := by omega
          have hpd : 0 ≤ (p : Int) / zs.length ∧ (p : Int) / zs.length ≤ p := IntWalk.tdiv_le _ _ (by omega) (by omega)
          obtain ⟨D, hD⟩ : ∃ D : Int, D = (p : Int) / zs.length := ⟨_, rfl⟩
          rw [← hD] at hpd
          obtain ⟨hd0, hd1⟩ := hpd
          have e7 : IntKind.i64.wrap ((p : Int) * 7) = (p : Int) * 7 := IntWalk.i64_in _ (by omega)
          have e73 : IntKind.i64.wrap ((p : Int) * 7 + 3) = (p : Int) * 7 + 3 := IntWalk.i64_in _ (by omega)
          have e29 : IntKind.i64.wrap ((p : Int) * 29) = (p : Int) * 29 := IntWalk.i64_in _ (by omega)
          have em1 : (p : Int).tmod zs.length = ((p % zs.length : Nat) : Int) := rfl
          have em2 : ((p : Int) * 7 + 3).tmod zs.length = (((p * 7 + 3) % zs.length : Nat) : Int) := rfl
          have ez1 : IntKind.i64.wrap z1 = z1 := IntWalk.i64_in _ (by omega)
          have ez2 : IntKind.i64.wrap z2 = z2 := IntWalk.i64_in _ (by omega)
          have e131 : IntKind.i64.wrap (z1 * 131) = z1 * 131 := IntWalk.i64_in _ (by omega)
          have e1117 : IntKind.i64.wrap (z2 * 1117) = z2 * 1117 := IntWalk.i64_in _ (by omega)
          have es1 : IntKind.i64.wrap (z1 * 131 + z2 * 1117) = z1 * 131 + z2 * 1117 := IntWalk.i64_in _ (by omega)
          have es2 : IntKind.i64.wrap (z1 * 131 + z2 * 1117 + p * 29) = z1 * 131 + z2 * 1117 + p * 29 := IntWalk.i64_in _ (by omega)
          have eq1 : IntKind.i64.wrap ((p : Int).tdiv zs.length) = D := by rw [hD]; exact IntWalk.i64_quo _ _ (by omega)
          have eq2 : IntKind.i64.wrap (D * 53) = D * 53 := IntWalk.i64_in _ (by omega)
          have es3 : IntKind.i64.wrap (z1 * 131 + z2 * 1117 + p * 29 + D * 53) = z1 * 131 + z2 * 1117 + p * 29 + D * 53 := IntWalk.i64_in _ (by omega)
          have hi1 : 0 ≤ (p : Int) % zs.length := Int.emod_nonneg _ (by omega)
          have hi2 : (p : Int) % zs.length < zs.length := Int.emod_lt_of_pos _ (by omega)
          have hi3 : ((p : Int) % zs.length).toNat = p % zs.length := rfl
          have hj1 : 0 ≤ ((p : Int) * 7 + 3) % zs.length := Int.emod_nonneg _ (by omega)
          have hj2 : ((p : Int) * 7 + 3) % zs.length < zs.length := Int.emod_lt_of_pos _ (by omega)
          have hj3 : (((p : Int) * 7 + 3) % zs.length).toNat = (p * 7 + 3) % zs.length := rfl
          have HD := Lib.hid hD
          clear hD
          go_enter Tryd.func27, Tryd.ntmps27
          go_wp2
          go_quiet (fail)
          clear e7 e73 e29 em1 em2 ez1 ez2 e131 e1117 es1 es2 eq1 eq2 es3 hi3 hj3
          go_wp2
          go_ret
          exact ⟨rfl, h.step.drewN _, grown_drewN step_grown _⟩
        · refine ⟨0, by omega, .inr rfl, fun B g A c w h hp => absurd ?_ hr⟩
          exact ⟨h.bytes.range _ hm1, h.bytes.range _ hm2, hp⟩

theorem pick_any (B g : Nat) (A : Option Addr) (c : Nat) (zs : List Int) (p : Nat) (n : Int) (w : World) (h : Rdr w B g A c zs p) (hp : p ≤ 1000000) :
    Calls Tryd.prog 27 #[.pointer (some ⟨g, 0, none⟩), .int .i64 n] w (Picked B g A c zs p n w) := by
  obtain ⟨v, h0, h1, hf⟩ := pick_fix zs p n
  exact (hf B g A c w h hp).mono fun e w' ⟨he, hr, hg⟩ => ⟨v, he, h0, h1, hr, hg⟩

/-- of: one of the names; the place goes on by one. -/
def DrawnOf (B g : Nat) (A : Option Addr) (c : Nat) (zs : List Int) (p : Nat) (ys : List ByteArray) (w : World) (e : Ending) (w' : World) : Prop :=
  ∃ s, e = .returned (.string s) ∧ s ∈ ys ∧ Rdr w' B g A c zs (p + 1) ∧ w.grownBy w' (some g)

set_option maxHeartbeats 400000 in
theorem of_any (B g : Nat) (A : Option Addr) (c : Nat) (zs : List Int) (p : Nat) (a2 : Addr) (n c2 : Nat) (ys : List ByteArray) (w : World) (h : Rdr w B g A c zs p) (hp : p ≤ 1000000)
    (hn : Hid (ys.length = n)) (hn0 : 0 < n) (hn1 : n ≤ 1000000) (hne : a2.block ≠ g) (hcells : Hid (∀ j (hj : j < ys.length), w.cell? (a2.add j) = some (.string ys[j]))) :
    Calls Tryd.prog 39 #[.pointer (some ⟨g, 0, none⟩), .slice (some a2) n c2] w (DrawnOf B g A c zs p ys w) := by
  go_enter Tryd.func39, Tryd.ntmps39
  go_wp2_with fail
  refine (pick_any B g A c zs p _ _ h hp).mono ?_
  rintro e w1 ⟨v, rfl, hv0, hv1, hr1, hg1⟩
  have hv2 : v < n := by omega
  obtain ⟨k, rfl⟩ := Int.eq_ofNat_of_zero_le hv0
  have hk : k < ys.length := by have := hn.out; omega
  have hcell : w1.cell? (a2.add k) = some (.string ys[k]) := hg1.cell (hcells.out k hk) (by rw [block_of_add]; simpa using hne)
  clear hv1 hv0
  go_wp2_with fail
  go_ret
  exact ⟨_, rfl, List.getElem_mem hk, hr1, hg1⟩

theorem grown_trans {w a b : World} {g : Nat} (h : w.grownBy a (some g)) (k : a.grownBy b (some g)) : w.grownBy b (some g) :=
  ⟨k.os.trans h.os, k.tape.trans h.tape, k.output.trans h.output, Nat.le_trans h.size k.size, fun i hi hne => (k.block i (by have := h.size; omega) hne).trans (h.block i hi hne)⟩
theorem grown_alloc {w a : World} {g : Nat} (h : w.grownBy a (some g)) (o : Obj) : w.grownBy (a.alloc o) (some g) := grown_trans h (World.grownBy_alloc _ _ _)
theorem grown_below {w a : World} {g B : Nat} (h : w.grownBy a (some g)) (hB : B ≤ g) (hw : B ≤ w.heap.size) : Below B w a :=
  (Below.refl _ _).grown h hw (fun k hk => by injection hk with hk; omega)
theorem Rdr.alloc {w : World} {B g c p : Nat} {A : Option Addr} {zs : List Int} (h : Rdr w B g A c zs p) (o : Obj) : Rdr (w.alloc o) B g A c zs p :=
  h.keep fun k hk => Below.heap_alloc _ _ _ (by have := h.lt; omega)

/-- of, at names that have just been written down. -/
theorem ofLit_any (ys : List ByteArray) (B g : Nat) (A : Option Addr) (c : Nat) (zs : List Int) (p : Nat) (n : Nat) (w : World) (h : Rdr w B g A c zs p) (hp : p ≤ 1000000)
    (hn : ys.length = n) (hn0 : 0 < n) (hn1 : n ≤ 1000000) :
    Calls Tryd.prog 39 #[.pointer (some ⟨g, 0, none⟩), .slice (some ⟨w.heap.size, 0, none⟩) n n] (w.alloc (.cells (ys.map Value.string).toArray 9)) (DrawnOf B g A c zs p ys w) := by
  refine (of_any B g A c zs p ⟨w.heap.size, 0, none⟩ n n ys _ (h.alloc _) hp hn hn0 hn1 ?_ ?_).mono ?_
  · have := h.lt
    show w.heap.size ≠ g
    omega
  · intro j hj
    have hadd : (⟨w.heap.size, 0, none⟩ : Addr).add j = ⟨w.heap.size, j, none⟩ := by unfold Addr.add; split <;> simp_all
    rw [hadd, cell_of_row _ w.heap.size j _ _ (0, 0) (heap_alloc_new w _)]
    simp [List.getElem?_eq_getElem hj]
  · rintro e w1 ⟨s, rfl, hs, hr, hg⟩
    exact ⟨s, rfl, hs, hr, grown_trans (World.grownBy_alloc _ _ _) hg⟩

/-- l6Open: a reader in a new block. -/
def Opened (B : Nat) (A : Option Addr) (c : Nat) (w : World) (e : Ending) (w' : World) : Prop :=
  ∃ zs : List Int, e = .returned (.pointer (some ⟨w.heap.size, 0, none⟩)) ∧ Rdr w' B w.heap.size A c zs 0 ∧ Below w.heap.size w w' ∧ w'.heap.size = w.heap.size + 1

set_option maxHeartbeats 400000 in
theorem open_any (B : Nat) (A : Option Addr) (c : Nat) (zs : List Int) (w : World) (h : Byts w B A c zs) (hB : B ≤ w.heap.size) :
    Calls Tryd.prog 26 #[.slice A zs.length c] w (Opened B A c w) := by
  have hl := h.len
  have hc := h.cap
  by_cases h2 : 2000 < zs.length
  · go_enter Tryd.func26, Tryd.ntmps26
    go_wp2
    go_ret
    have hlen : (zs.take 2000).length = 2000 := by rw [List.length_take]; omega
    refine ⟨zs.take 2000, rfl, ⟨?_, ?_, by omega, hB⟩, (Below.refl _ _).alloc (Nat.le_refl _) _, by simp⟩
    · rw [hlen]; exact heap_alloc_new w _
    · exact (h.take 2000).keep fun p hp => World.cell?_alloc_lt w _ p (by omega)
  · go_enter Tryd.func26, Tryd.ntmps26
    go_wp2
    go_ret
    exact ⟨zs, rfl, ⟨heap_alloc_new w _, h.keep fun p hp => World.cell?_alloc_lt w _ p (by omega), by omega, hB⟩, (Below.refl _ _).alloc (Nat.le_refl _) _, by simp⟩
end Go.Proofs.YtfodedakhnoplaaDoor
