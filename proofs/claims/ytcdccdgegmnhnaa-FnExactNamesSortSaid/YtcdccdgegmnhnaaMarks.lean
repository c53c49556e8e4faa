/- Contracts of the laws' marks: markText, markStringS, heldStringS, markStepS, markFlow. Condition: sizes as the laws ask them. -/
import Derived.Test.YtcdccdgegmnhnaaFlowCopies
import Derived.Test.YtcdccdgegmnhnaaSpecFlows
import Derived.Deep.RegionWith
import Derived.Deep.RegionHeld3
import Derived.Laws.BytesArg
namespace Go.Proofs.Ytcdccdgegmnhnaa
set_option linter.unusedVariables false
set_option maxRecDepth 100000
open Go.RowKit Go.Deep

/-- The last digit of j. -/
def dgt (j : Nat) : ByteArray := ⟨#[UInt8.ofNat (48 + j % 10)]⟩
/-- The digits of j in front of o, by so many rounds. -/
def mkD : Nat → Nat → ByteArray → ByteArray
  | 0, _, o => o
  | f + 1, j, o => if j = 0 then o else mkD f (j / 10) (dgt j ++ o)
theorem mkD_zero (f : Nat) (o : ByteArray) : mkD f 0 o = o := by cases f <;> simp [mkD]
def markOf (k : Nat) : ByteArray := ⟨#[109]⟩ ++ mkD 20 k ⟨#[]⟩

set_option maxHeartbeats 400000 in
theorem markText_any (k : Nat) (h1 : 1 ≤ k) (h2 : k ≤ 10000000) (w : World) :
    Calls Try.prog 41 #[.int .i64 k] w fun e w' => e = .returned (.string (markOf k)) ∧ Below w.heap.size w w' := by
  go_enter Try.func41, Try.ntmps41
  go_wp2_with fail
  go_loopw [0, 3] (fun kk out wr => ∃ (f j : Nat) (o : ByteArray), kk = .int .i64 j ∧ out = .string o ∧ f + o.size = 20 ∧ j < 10 ^ f ∧ j ≤ 10000000 ∧ mkD f j o = mkD 20 k ⟨#[]⟩ ∧ Below w.heap.size w wr) (fun kk _ _ => (intOf kk).toNat)
  case atStart => exact ⟨20, k, ⟨#[]⟩, rfl, rfl, rfl, by omega, by omega, rfl, Below.refl _ _⟩
  case round =>
    obtain ⟨f, j, o, rfl, rfl, hf0, hj0, hj, he0, hb⟩ := hrel
    have hf := Lib.hid hf0
    have hjf := Lib.hid hj0
    have he := Lib.hid he0
    have ho : o.size ≤ 20 := by omega
    clear hf0 hj0 he0
    by_cases h0 : 0 < j
    · have hm : (0 : Int) ≤ (j : Int) % 10 := Int.emod_nonneg _ (by omega)
      have hm1 : (j : Int) % 10 < 10 := Int.emod_lt_of_pos _ (by omega)
      have hcv := run_convert_bytes_arg (P := Try.prog) (wr.alloc (.cells #[.int .u8 (48 + (j : Int) % 10)] 5)) 22 5 Try.underlying22 Try.underlying5 wr.heap.size 0 1 1 [48 + (j : Int) % 10] rfl
        (fun i hi => by obtain rfl : i = 0 := by omega
                        simp) 9 Try.underlying9
      have es : strOfNums [48 + (j : Int) % 10] = dgt j := by
        have : (48 + (j : Int) % 10).toNat = 48 + j % 10 := by omega
        simp [strOfNums, dgt, this]
      rw [es] at hcv
      clear es
      have hsz : (dgt j).size = 1 := rfl
      have Hsz := Lib.hid hsz
      have hsz1 : (dgt j).size ≤ 1 := by omega
      clear hsz
      go_wp2_with fail
      go_roundw
      case rel =>
        have hs1 : f ≠ 0 := by
          intro e
          have := hjf.out
          rw [e] at this
          simp at this
          omega
        obtain ⟨g, rfl⟩ : ∃ g, f = g + 1 := ⟨f - 1, by omega⟩
        refine ⟨g, j / 10, dgt j ++ o, ?_, rfl, ?_, ?_, by omega, ?_, hb.alloc hb.size _⟩
        · go_num
        · rw [ByteArray.size_append, Hsz.out]; have := hf.out; omega
        · have := hjf.out
          rw [Nat.pow_succ] at this
          omega
        · rw [← he.out]
          conv => rhs; rw [mkD]
          rw [if_neg (by omega)]
      case measure => simp [intOf]; omega
    · obtain rfl : j = 0 := by omega
      have hm : (⟨#[109]⟩ : ByteArray) ++ o = markOf k := by
        unfold markOf
        rw [← he.out, mkD_zero]
      have Hm := Lib.hid hm
      clear hm
      go_wp2_with fail
      go_ret
      exact ⟨ret_str Hm.out, hb⟩

def marks (k n : Nat) : List ByteArray := (List.range n).map fun i => markOf (k + i)
theorem marks_length (k n : Nat) : (marks k n).length = n := by simp [marks]
theorem marks_get {k n i : Nat} (h : i < n) : (marks k n)[i]'(by rw [marks_length]; exact h) = markOf (k + i) := by simp [marks]
theorem mkD_size (f j : Nat) (o : ByteArray) : (mkD f j o).size ≤ f + o.size := by
  induction f generalizing j o with
  | zero => simp [mkD]
  | succ f ih =>
    unfold mkD
    split
    · omega
    · have := ih (j / 10) (dgt j ++ o)
      have e : (dgt j).size = 1 := rfl
      rw [ByteArray.size_append, e] at this
      omega
theorem markOf_size (k : Nat) : (markOf k).size ≤ 21 := by
  unfold markOf
  have := mkD_size 20 k ⟨#[]⟩
  have e : (⟨#[109]⟩ : ByteArray).size = 1 := rfl
  have e' : (⟨#[]⟩ : ByteArray).size = 0 := rfl
  rw [ByteArray.size_append, e]
  omega
/-- The first i names are marked. -/
def mixS (k : Nat) (xs : List ByteArray) (i : Nat) : List ByteArray := marks k i ++ xs.drop i
theorem mixS_length {k i : Nat} {xs : List ByteArray} (h : i ≤ xs.length) : (mixS k xs i).length = xs.length := by
  unfold mixS; rw [List.length_append, marks_length, List.length_drop]; omega
theorem mixS_set {k i : Nat} {xs : List ByteArray} (h : i < xs.length) : (mixS k xs i).set i (markOf (k + i)) = mixS k xs (i + 1) := by
  unfold mixS
  rw [List.set_append_right _ _ (by rw [marks_length]; omega), marks_length, Nat.sub_self, List.drop_eq_getElem_cons h, List.set_cons_zero]
  unfold marks
  rw [List.range_succ, List.map_append]
  simp
theorem mixS_all (k : Nat) (xs : List ByteArray) : mixS k xs xs.length = marks k xs.length := by unfold mixS; simp
theorem mixS_zero (k : Nat) (xs : List ByteArray) : mixS k xs 0 = xs := by unfold mixS marks; simp

theorem own_block {w : World} {base : Nat} {A : Option Addr} {c : Nat} {xs : List ByteArray} (h : OwnStrs w base A c xs) (h0 : 0 < xs.length) :
    ∃ ga, A = some ⟨ga, 0, none⟩ ∧ base ≤ ga ∧ ga < w.heap.size ∧ (∀ j (hj : j < xs.length), w.cell? ⟨ga, j, none⟩ = some (.string xs[j])) ∧ ∀ j, w.frozen? ⟨ga, j, none⟩ = false := by
  rcases h.1.2 with ⟨_, hn⟩ | ⟨ga, cap, cur, hv, hg, hh, _⟩
  · omega
  · injection hv with h1 h2 h3
    subst h1 h3
    refine ⟨ga, rfl, hg, (Array.getElem?_eq_some_iff.1 hh).1, fun j hj => ?_, fun j => h.1.frozenAt j⟩
    rw [h.1.cellAt j (by omega)]
    simp [List.getElem?_eq_getElem hj]
theorem grown_then {w a b : World} {row : Option Nat} (h : w.grownBy a row) (k : Below a.heap.size a b) : w.grownBy b row :=
  ⟨k.os.trans h.os, k.tape.trans h.tape, k.output.trans h.output, Nat.le_trans h.size k.size, fun i hi hne => (k.block i (by have := h.size; omega)).trans (h.block i hi hne)⟩
theorem grown_after_alloc {w b : World} {o : Obj} {row : Option Nat} (h : (w.alloc o).grownBy b row) : w.grownBy b row :=
  ⟨h.os, h.tape, h.output, by have := h.size; simp at this; omega, fun i hi hne => (h.block i (by simp; omega) hne).trans (Below.heap_alloc w o i hi)⟩
theorem grown_set {w a : World} {g : Nat} (h : w.grownBy a (some g)) (j : Nat) (u : Value) : w.grownBy (a.setCell ⟨g, j, none⟩ u) (some g) :=
  ⟨h.os, h.tape, h.output, by simp [World.setCell]; exact h.size, fun i hi hne => (Below.heap_setCell a ⟨g, j, none⟩ u i (fun e => hne (by rw [e]))).trans (h.block i hi hne)⟩

/-- Names are marked: the slice's own cells alone turn. -/
def MarkedStrs (w : World) (base : Nat) (A : Option Addr) (c n k : Nat) (e : Ending) (w' : World) : Prop :=
  e = .returned (.int .i64 ((k + n : Nat) : Int)) ∧ OwnStrs w' base A c (marks k n) ∧ w.grownBy w' (A.map (·.block))

set_option maxHeartbeats 1000000 in
theorem markStringS_any (A : Option Addr) (c : Nat) (xs : List ByteArray) (k : Nat) (w : World) (base : Nat) (h : OwnStrs w base A c xs) (hk : 1 ≤ k) (hl : k + xs.length ≤ 10000000) :
    Calls Try.prog 18 #[.slice A xs.length c, .int .i64 k] w (MarkedStrs w base A c xs.length k) := by
  go_enter Try.func18, Try.ntmps18
  go_wp2_with fail
  go_loopw [1, 5] (fun q i wr => ∃ (j m : Nat), j ≤ xs.length ∧ i = .int .i64 j ∧ q = .int .i64 m ∧ m = k + j ∧ OwnStrs wr base A c (mixS k xs j) ∧ w.grownBy wr (A.map (·.block))) (fun _ i _ => xs.length - (intOf i).toNat)
  case atStart => exact ⟨0, k, Nat.zero_le _, rfl, rfl, rfl, by rw [mixS_zero]; exact h, World.grownBy.refl w _⟩
  case round =>
    obtain ⟨j, m, hj, rfl, rfl, hm0, ho, hg⟩ := hrel
    have hm := Lib.hid hm0
    have hm1 : 1 ≤ m := by omega
    have hm2 : m ≤ 10000000 := by omega
    clear hm0
    by_cases hlt : j < xs.length
    · have hml := Lib.hid (mixS_length (k := k) (xs := xs) (i := j) hj)
      go_wp2_with fail
      refine (markText_any m hm1 hm2 _).mono ?_
      rintro e w1 ⟨rfl, hb1⟩
      have ho1 := ho.below hb1
      obtain ⟨ga, rfl, hga, hgl, hcell, hfz⟩ := own_block ho1 (by rw [hml.out]; omega)
      have hc := hcell j (by rw [hml.out]; omega)
      have hf := hfz j
      clear hcell hfz
      have hown2 := (ho1.1.stored j (.string (markOf m))).1
      rw [← List.map_set] at hown2
      have hmx : (mixS k xs j).set j (markOf m) = mixS k xs (j + 1) := by rw [hm.out]; exact mixS_set hlt
      rw [hmx, hml.out] at hown2
      have hml2 := mixS_length (k := k) (xs := xs) (i := j + 1) hlt
      have ho2 : OwnStrs (w1.setCell ⟨ga, j, none⟩ (.string (markOf m))) base (some ⟨ga, 0, none⟩) c (mixS k xs (j + 1)) := by
        refine ⟨by rw [hml2]; exact hown2, fun x hx => ?_⟩
        rw [← hmx] at hx
        rcases List.mem_or_eq_of_mem_set hx with hx | rfl
        · exact ho1.2 x hx
        · have := markOf_size m; omega
      have hg2 := grown_set (g := ga) (grown_then hg hb1) j (.string (markOf m))
      have Ho2 := Lib.hid ho2
      clear hown2 hmx hml2 ho2
      go_wp2_with fail
      go_roundw
      case rel => exact ⟨j + 1, m + 1, by omega, by go_num, by go_num, by rw [hm.out]; omega, Ho2.out, hg2⟩
      case measure => simp [intOf]; omega
    · obtain rfl : j = xs.length := by omega
      have Hm := Lib.hid (show (m : Int) = ((k + xs.length : Nat) : Int) by rw [hm.out])
      rw [mixS_all] at ho
      go_wp2_with fail
      go_ret
      exact ⟨ret_int Hm.out, ho, hg⟩

set_option maxHeartbeats 1000000 in
theorem heldStringS_any (A : Option Addr) (c n k : Nat) (w : World) (B : Nat) (h : Strs w B A c (marks k n)) (hk : 1 ≤ k) (hl : k + n ≤ 10000000) :
    Calls Try.prog 19 #[.slice A n c, .int .i64 k] w fun e w' => e = .returned (.int .i64 ((k + n : Nat) : Int)) ∧ Below w.heap.size w w' := by
  have h1 : n ≤ c := by have := h.len; rw [marks_length] at this; exact this
  have h2 := h.cap
  go_enter Try.func19, Try.ntmps19
  go_wp2_with fail
  go_loopw [1, 5] (fun q i wr => ∃ (j m : Nat), j ≤ n ∧ i = .int .i64 j ∧ q = .int .i64 m ∧ m = k + j ∧ Below w.heap.size w wr) (fun _ i _ => n - (intOf i).toNat)
  case atStart => exact ⟨0, k, Nat.zero_le _, rfl, rfl, rfl, Below.refl _ _⟩
  case round =>
    obtain ⟨j, m, hj, rfl, rfl, hm0, hb⟩ := hrel
    have hm := Lib.hid hm0
    have hm1 : 1 ≤ m := by omega
    have hm2 : m ≤ 10000000 := by omega
    clear hm0
    by_cases hlt : j < n
    · obtain ⟨ad, rfl, hbl, hcell⟩ := (h.then_ hb).at_ (k := j) (by rw [marks_length]; exact hlt)
      rw [marks_get hlt, ← hm.out] at hcell
      have hi0 : (0 : Int) ≤ j := by omega
      have hi1 : (j : Int) < n := by omega
      have hx : ((markOf m).toList != (markOf m).toList) = false := by simp
      have hbl2 : (ad.add j).block < wr.heap.size := by rw [block_of_add]; have := hb.size; omega
      have K := Lib.hid (markText_any m hm1 hm2 wr.drew)
      go_wp2_with fail
      go_region_held3 (fun w' => w'.cell? (ad.add j) = some (.string (markOf m))) (first | assumption | go_keep)
        ((go_at_call 41; (with_reducible refine K.out.mono ?_); rintro e w1 ⟨rfl, hb1⟩; have S1 := ((Below.undrew hb1).cell hbl2).trans hcell))
      have hb2 := bthen hb (Below.undrew hb1)
      go_wp2_with fail
      go_roundw
      case rel => exact ⟨j + 1, m + 1, by omega, by go_num, by go_num, by rw [hm.out]; omega, hb2⟩
      case measure => simp [intOf]; omega
    · obtain rfl : j = n := by omega
      have Hm := Lib.hid (show (m : Int) = ((k + j : Nat) : Int) by rw [hm.out])
      go_wp2_with fail
      go_ret
      exact ⟨ret_int Hm.out, hb⟩

/-- From the first mark on. -/
theorem markStringS_one (A : Option Addr) (c : Nat) (xs : List ByteArray) (w : World) (base : Nat) (h : OwnStrs w base A c xs) (hl : xs.length ≤ 5000000) :
    Calls Try.prog 18 #[.slice A xs.length c, .int .i64 1] w fun e w' => e = .returned (.int .i64 (xs.length + 1)) ∧ OwnStrs w' base A c (marks 1 xs.length) ∧ w.grownBy w' (A.map (·.block)) :=
  (markStringS_any A c xs 1 w base h (Nat.le_refl _) (by omega)).mono fun e w' ⟨he, ho, hg⟩ => ⟨he.trans (ret_int (by omega)), ho, hg⟩
theorem heldStringS_one (A : Option Addr) (c n : Nat) (w : World) (B : Nat) (h : Strs w B A c (marks 1 n)) (hl : n ≤ 5000000) :
    Calls Try.prog 19 #[.slice A n c, .int .i64 1] w fun e w' => e = .returned (.int .i64 (n + 1)) ∧ Below w.heap.size w w' :=
  (heldStringS_any A c n 1 w B h (Nat.le_refl _) (by omega)).mono fun e w' ⟨he, hb⟩ => ⟨he.trans (ret_int (by omega)), hb⟩
end Go.Proofs.Ytcdccdgegmnhnaa
