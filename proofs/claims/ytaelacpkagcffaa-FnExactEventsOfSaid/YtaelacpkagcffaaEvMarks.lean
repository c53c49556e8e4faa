/- Contracts of the laws' own functions that mark events and look at marked ones. Condition: the lists are short. -/
import Derived.Test.YtaelacpkagcffaaExactWords
import Derived.Test.YtaelacpkagcffaaEvCopies
namespace Go.Proofs.Ytaelacpkagcffaa
set_option linter.unusedVariables false
set_option maxRecDepth 100000
open Go.RowKit

/-- Marked events. -/
def markEv (k i : Nat) : Ev := ⟨((k + 2 * i : Nat) : Int), markOf (k + 2 * i + 1)⟩
def marksE (k n : Nat) : List Ev := (List.range n).map fun i => markEv k i
theorem marksE_length (k n : Nat) : (marksE k n).length = n := by simp [marksE]
theorem marksE_get {k n i : Nat} (h : i < n) : (marksE k n)[i]'(by rw [marksE_length]; exact h) = markEv k i := by simp [marksE]
def mixE (k : Nat) (xs : List Ev) (i : Nat) : List Ev := marksE k i ++ xs.drop i
theorem mixE_length {k i : Nat} {xs : List Ev} (h : i ≤ xs.length) : (mixE k xs i).length = xs.length := by
  unfold mixE; rw [List.length_append, marksE_length, List.length_drop]; omega
theorem mixE_all (k : Nat) (xs : List Ev) : mixE k xs xs.length = marksE k xs.length := by unfold mixE; simp
theorem mixE_zero (k : Nat) (xs : List Ev) : mixE k xs 0 = xs := by unfold mixE marksE; simp
theorem mixE_set {k i : Nat} {xs : List Ev} (h : i < xs.length) : (((mixE k xs i).flatMap evCells).set (i * 2) (.int .i64 ((k + 2 * i : Nat) : Int))).set (i * 2 + 1) (.string (markOf (k + 2 * i + 1))) = (mixE k xs (i + 1)).flatMap evCells := by
  unfold mixE
  have hl : ((marksE k i).flatMap evCells).length = i * 2 := by rw [evCells_length, marksE_length]
  rw [List.drop_eq_getElem_cons h, List.flatMap_append, List.flatMap_cons, List.set_append_right _ _ (by omega), List.set_append_right _ _ (by omega), hl, Nat.sub_self, Nat.add_sub_cancel_left]
  have e : marksE k (i + 1) = marksE k i ++ [markEv k i] := by unfold marksE; rw [List.range_succ, List.map_append]; rfl
  rw [e, List.flatMap_append, List.flatMap_append, List.append_assoc]
  rfl
theorem Evs.alloc2 {w : World} {B c : Nat} {A : Option Addr} {es : List Ev} (h : Evs w B A c es) (o : Obj) : Evs (w.alloc o) w.heap.size A c es := h.alloc o
theorem own_blockE {w : World} {base : Nat} {A : Option Addr} {c : Nat} {es : List Ev} (h : OwnEvs w base A c es) (h0 : 0 < es.length) :
    ∃ ga, A = some ⟨ga, 0, none⟩ ∧ base ≤ ga ∧ ga < w.heap.size ∧ (∀ j (hj : j < es.length), w.cell? ⟨ga, j * 2, none⟩ = some (.int .i64 es[j].kind) ∧ w.cell? ⟨ga, j * 2 + 1, none⟩ = some (.string es[j].name)) ∧ ∀ j, w.frozen? ⟨ga, j, none⟩ = false := by
  rcases h.1.2 with ⟨_, hn⟩ | ⟨ga, cap, cur, hv, hg, hh, _⟩
  · omega
  · injection hv with h1 h2 h3
    subst h1 h3
    refine ⟨ga, rfl, hg, (Array.getElem?_eq_some_iff.1 hh).1, fun j hj => ?_, fun j => h.1.frozenAt j⟩
    have h2 := evCells_at es j hj
    constructor
    · rw [h.1.cellAt _ (by omega)]; exact h2.1
    · rw [h.1.cellAt _ (by omega)]; exact h2.2
theorem ownE_block {w : World} {base : Nat} {p : Addr} {c : Nat} {es : List Ev} (h : OwnEvs w base (some p) c es) : base ≤ p.block ∧ p.block < w.heap.size := h.1.lt p.block rfl
theorem mark_betwE {w0 w w' : World} {base lo : Nat} {A : Option Addr} {c : Nat} {xs : List Ev} (h : OwnEvs w0 base A c xs) (hg : w.grownBy w' (A.map (·.block))) (hb : lo ≤ base) : Betw lo w0.heap.size w w' :=
  (Betw.refl _ _ _).grown hg fun k hk => by
    cases A with
    | none => cases hk
    | some p =>
      injection hk with hk
      have := ownE_block h
      subst hk
      exact ⟨Nat.le_trans hb this.1, this.2⟩
theorem Betw.ownE {lo hi : Nat} {w a : World} {base : Nat} {A : Option Addr} {c : Nat} {xs : List Ev} (h : Betw lo hi w a) (ho : OwnEvs w base A c xs) (hb : hi ≤ base) : OwnEvs a base A c xs := by
  obtain ⟨⟨h1, h2⟩, hx⟩ := ho
  refine ⟨⟨h1, ?_⟩, hx⟩
  rcases h2 with h2 | ⟨g, cap, cur, hv, hg, hh, r⟩
  · exact .inl h2
  · exact .inr ⟨g, cap, cur, hv, hg, by rw [h.block g (Array.getElem?_eq_some_iff.1 hh).1 (.inr (by omega))]; exact hh, r⟩
theorem OwnEvs.setLow {w : World} {base : Nat} {A : Option Addr} {c : Nat} {es : List Ev} (h : OwnEvs w base A c es) {a : Addr} (ha : a.block < base) (u : Value) : OwnEvs (w.setCell a u) base A c es := ⟨ownsRow_setCell_below h.1 ha u, h.2⟩
theorem eqEventS_same (A A' : Option Addr) (c c' : Nat) (xs : List Ev) (w : World) (B B' : Nat) (h : Evs w B A c xs) (h' : Evs w B' A' c' xs) :
    Calls Try.prog 30 #[.slice A xs.length c, .slice A' xs.length c'] w fun e w' => e = .returned (.bool true) ∧ Below w.heap.size w w' :=
  eqEventS_any A A' c c' xs xs w B B' h h' true (Lib.hid (by simp))

/-- Events are marked: the slice's own cells alone turn. -/
def MarkedEvs (w : World) (base : Nat) (A : Option Addr) (c n k : Nat) (e : Ending) (w' : World) : Prop :=
  e = .returned (.int .i64 ((k + 2 * n : Nat) : Int)) ∧ OwnEvs w' base A c (marksE k n) ∧ w.grownBy w' (A.map (·.block))

set_option maxHeartbeats 2000000 in
theorem markEventS_any (A : Option Addr) (c : Nat) (xs : List Ev) (k : Nat) (w : World) (base : Nat) (h : OwnEvs w base A c xs) (hk : 1 ≤ k) (hl : k + 2 * xs.length ≤ 10000000) :
    Calls Try.prog 31 #[.slice A xs.length c, .int .i64 k] w (MarkedEvs w base A c xs.length k) := by
  go_enter Try.func31, Try.ntmps31
  go_wp2_with fail
  go_loopw [1, 5] (fun q i wr => ∃ (j m : Nat), j ≤ xs.length ∧ i = .int .i64 j ∧ q = .int .i64 m ∧ m = k + 2 * j ∧ OwnEvs wr base A c (mixE k xs j) ∧ w.grownBy wr (A.map (·.block))) (fun _ i _ => xs.length - (intOf i).toNat)
  case atStart => exact ⟨0, k, Nat.zero_le _, rfl, rfl, rfl, by rw [mixE_zero]; exact h, World.grownBy.refl w _⟩
  case round =>
    obtain ⟨j, m, hj, rfl, rfl, hm0, ho, hg⟩ := hrel
    have hm := Lib.hid hm0
    have hm1 : 1 ≤ m := by omega
    have hm2 : m ≤ 10000000 := by omega
    by_cases hlt : j < xs.length
    · have hm3 : m + 1 ≤ 10000000 := by omega
      clear hm0
      have hml := Lib.hid (mixE_length (k := k) (xs := xs) (i := j) hj)
      obtain ⟨ga, rfl, hga, hgl, hcell, hfz⟩ := own_blockE ho (by rw [hml.out]; omega)
      obtain ⟨hc0, hc1⟩ := hcell j (by rw [hml.out]; omega)
      have hf0 := hfz (j * 2)
      have hf1 := hfz (j * 2 + 1)
      have hadd : ∀ n, (⟨ga, 0, none⟩ : Addr).add n = ⟨ga, n, none⟩ := fun n => by unfold Addr.add; split <;> simp_all
      have hw1 : IntKind.i64.wrap ((m : Int) + 1) = (m : Int) + 1 := IntWalk.i64_in _ (by omega)
      have hlc : xs.length ≤ c := by have := ho.evs.len; rw [hml.out] at this; exact this
      have hcc := ho.evs.cap
      have hown1 := ho.1.stored (j * 2) (.int .i64 (m : Int))
      obtain ⟨hown1, _⟩ := hown1
      have hb1 : Below (wr.setCell ⟨ga, j * 2, none⟩ (.int .i64 (m : Int))).heap.size (wr.setCell ⟨ga, j * 2, none⟩ (.int .i64 (m : Int))) (wr.setCell ⟨ga, j * 2, none⟩ (.int .i64 (m : Int))) := Below.refl _ _
      have hg1 := grown_set (g := ga) hg (j * 2) (.int .i64 (m : Int))
      have Hown := Lib.hid hown1
      have Hx := Lib.hid ho.2
      have hi0 : (0 : Int) ≤ j := by omega
      have hi1 : (j : Int) < xs.length := by omega
      have KM := Lib.hid (show ∀ wx, Calls Try.prog 64 #[.int .i64 ((m : Int) + 1)] wx fun e w' => e = .returned (.string (markOf (m + 1))) ∧ Below wx.heap.size wx w' from fun wx => by rw [show ((m : Int) + 1) = ((m + 1 : Nat) : Int) from by omega]; exact markText_any (m + 1) (by omega) hm3 wx)
      clear hcell hfz hown1 hb1 ho
      go_wp2_with fail
      (with_reducible refine (KM.out _).mono ?_)
      rintro e w2 ⟨rfl, hb2⟩
      have hown2 := own_below Hown.out hb2
      have hf2 := hown2.frozenAt (j * 2 + 1)
      have hc2 : w2.cell? ⟨ga, j * 2 + 1, none⟩ = some (.string ((mixE k xs j)[j]'(by rw [hml.out]; exact hlt)).name) := (hb2.cell (by simpa using hgl)).trans ((World.cell?_setCell_other wr ⟨ga, j * 2, none⟩ _ _ (fun e => by injection e with _ e; omega)).trans hc1)
      obtain ⟨hown3, _⟩ := hown2.stored (j * 2 + 1) (.string (markOf (m + 1)))
      have hms : (((mixE k xs j).flatMap evCells).set (j * 2) (.int .i64 (m : Int))).set (j * 2 + 1) (.string (markOf (m + 1))) = (mixE k xs (j + 1)).flatMap evCells := by rw [hm.out]; exact mixE_set hlt
      rw [hms, hml.out] at hown3
      have hml2 := mixE_length (k := k) (xs := xs) (i := j + 1) hlt
      have ho2 : OwnEvs (w2.setCell ⟨ga, j * 2 + 1, none⟩ (.string (markOf (m + 1)))) base (some ⟨ga, 0, none⟩) c (mixE k xs (j + 1)) := by
        refine ⟨by rw [hml2]; exact hown3, fun x hx => ?_⟩
        rcases List.mem_append.1 hx with hx | hx
        · obtain ⟨i, hi, rfl⟩ := List.mem_map.1 hx
          have := markOf_size (k + 2 * i + 1)
          show (markOf (k + 2 * i + 1)).size ≤ _
          omega
        · exact h.2 x (List.mem_of_mem_drop hx)
      have hg2 := grown_set (g := ga) (grown_then hg1 hb2) (j * 2 + 1) (.string (markOf (m + 1)))
      have Ho2 := Lib.hid ho2
      have hgl2 : ga < w2.heap.size := by have := hb2.size; simp at this; omega
      clear hown2 hown3 hms hml2 ho2 hc0 hf0 hf1 hc1 Hown
      go_wp2_with fail
      go_roundw
      case rel => exact ⟨j + 1, m + 1 + 1, by omega, by go_num, by go_num, by rw [hm.out]; omega, Ho2.out, hg2⟩
      case measure => simp [intOf]; omega
    · obtain rfl : j = xs.length := by omega
      have Hm := Lib.hid (show (m : Int) = ((k + 2 * xs.length : Nat) : Int) by rw [hm.out])
      rw [mixE_all] at ho
      go_wp2_with fail
      go_ret
      exact ⟨ret_int Hm.out, ho, hg⟩

set_option maxHeartbeats 2000000 in
theorem heldEventS_any (A : Option Addr) (c n k : Nat) (w : World) (B : Nat) (h : Evs w B A c (marksE k n)) (hk : 1 ≤ k) (hl : k + 2 * n ≤ 10000000) :
    Calls Try.prog 42 #[.slice A n c, .int .i64 k] w fun e w' => e = .returned (.int .i64 ((k + 2 * n : Nat) : Int)) ∧ Below w.heap.size w w' := by
  have h1 : n ≤ c := by have := h.len; rw [marksE_length] at this; exact this
  have h2 := h.cap
  go_enter Try.func42, Try.ntmps42
  go_wp2_with fail
  go_loopw [1, 5] (fun q i wr => ∃ (j m : Nat), j ≤ n ∧ i = .int .i64 j ∧ q = .int .i64 m ∧ m = k + 2 * j ∧ Below w.heap.size w wr) (fun _ i _ => n - (intOf i).toNat)
  case atStart => exact ⟨0, k, Nat.zero_le _, rfl, rfl, rfl, Below.refl _ _⟩
  case round =>
    obtain ⟨j, m, hj, rfl, rfl, hm0, hb⟩ := hrel
    have hm := Lib.hid hm0
    have hm1 : 1 ≤ m := by omega
    have hm2 : m ≤ 10000000 := by omega
    by_cases hlt : j < n
    · have hm3 : m + 1 ≤ 10000000 := by omega
      clear hm0
      obtain ⟨ad, rfl, hbl, hc0, hc1⟩ := (h.then_ hb).at_ (k := j) (by rw [marksE_length]; exact hlt)
      rw [marksE_get hlt] at hc0 hc1
      have hc0' : wr.cell? (ad.add (j * 2)) = some (.int .i64 (m : Int)) := by rw [hm.out]; exact hc0
      have hc1' : wr.cell? ⟨(ad.add (j * 2)).block, (ad.add (j * 2)).off + 1, none⟩ = some (.string (markOf (m + 1))) := by rw [hm.out]; exact hc1
      have hi0 : (0 : Int) ≤ j := by omega
      have hi1 : (j : Int) < n := by omega
      have hx : ((markOf (m + 1)).toList != (markOf (m + 1)).toList) = false := by simp
      have hx0 : ((m : Int) != m) = false := by simp
      have hbl2 := World.block_lt_of_cell? _ _ hc1'
      have K := Lib.hid (show Calls Try.prog 64 #[.int .i64 ((m : Int) + 1)] wr.drew fun e w' => e = .returned (.string (markOf (m + 1))) ∧ Below wr.drew.heap.size wr.drew w' from by rw [show ((m : Int) + 1) = ((m + 1 : Nat) : Int) from by omega]; exact markText_any (m + 1) (by omega) hm3 wr.drew)
      clear hc0 hc1
      go_wp2_with fail
      go_region_held3 (fun w' => w'.cell? ⟨(ad.add (j * 2)).block, (ad.add (j * 2)).off + 1, none⟩ = some (.string (markOf (m + 1)))) (first | assumption | go_keep)
        ((go_at_call 64; (with_reducible refine K.out.mono ?_); rintro e w1 ⟨rfl, hb1⟩; have S1 := ((Below.undrew hb1).cell (p := ⟨(ad.add (j * 2)).block, (ad.add (j * 2)).off + 1, none⟩) hbl2).trans hc1'))
      have hb2 := bthen hb (Below.undrew hb1)
      go_wp2_with fail
      go_roundw
      case rel => exact ⟨j + 1, m + 1 + 1, by omega, by go_num, by go_num, by rw [hm.out]; omega, hb2⟩
      case measure => simp [intOf]; omega
    · obtain rfl : j = n := by omega
      have Hm := Lib.hid (show (m : Int) = ((k + 2 * j : Nat) : Int) by rw [hm.out])
      go_wp2_with fail
      go_ret
      exact ⟨ret_int Hm.out, hb⟩

/-- From the first mark on. -/
theorem markEventS_one (A : Option Addr) (c : Nat) (xs : List Ev) (w : World) (base : Nat) (h : OwnEvs w base A c xs) (hl : xs.length ≤ 2000000) :
    Calls Try.prog 31 #[.slice A xs.length c, .int .i64 1] w fun e w' => e = .returned (.int .i64 (2 * xs.length + 1)) ∧ OwnEvs w' base A c (marksE 1 xs.length) ∧ w.grownBy w' (A.map (·.block)) :=
  (markEventS_any A c xs 1 w base h (Nat.le_refl _) (by omega)).mono fun e w' ⟨he, ho, hg⟩ => ⟨he.trans (ret_int (by omega)), ho, hg⟩
theorem heldEventS_one (A : Option Addr) (c n : Nat) (w : World) (B : Nat) (h : Evs w B A c (marksE 1 n)) (hl : n ≤ 2000000) :
    Calls Try.prog 42 #[.slice A n c, .int .i64 1] w fun e w' => e = .returned (.int .i64 (2 * n + 1)) ∧ Below w.heap.size w w' :=
  (heldEventS_any A c n 1 w B h (Nat.le_refl _) (by omega)).mono fun e w' ⟨he, hb⟩ => ⟨he.trans (ret_int (by omega)), hb⟩
end Go.Proofs.Ytaelacpkagcffaa
