/- Contracts of NamesSort (program and reference). Condition: the names take at most 1048576 letters and places. -/
import Derived.Test.YtcdccdgegmnhnaaSorts
import Derived.Test.YtcdccdgegmnhnaaPutIn
import Derived.Test.YtcdccdgegmnhnaaNames
import Derived.Test.YtcdccdgegmnhnaaAppend
import Derived.Test.YtcdccdgegmnhnaaCopies
namespace Go.Proofs.Ytcdccdgegmnhnaa
set_option linter.unusedVariables false
set_option maxRecDepth 100000
open Go.RowKit

/-- All names are valid. -/
def namesOk (xs : List ByteArray) : Bool := xs.all nameOk
/-- What NamesSort hands back. -/
def sortOut (xs : List ByteArray) : List ByteArray := if namesOk xs then srtOf xs else []
theorem sortOut_yes {xs : List ByteArray} (h : namesOk xs = true) : sortOut xs = srtOf xs := by unfold sortOut; rw [if_pos h]
theorem sortOut_no {xs : List ByteArray} (h : namesOk xs = false) : sortOut xs = [] := by unfold sortOut; rw [if_neg (by rw [h]; simp)]
theorem namesOk_bad {xs : List ByteArray} {k : Nat} (hk : k < xs.length) (h : nameOk xs[k] = false) : namesOk xs = false := by
  unfold namesOk
  rw [List.all_eq_false]
  exact ⟨_, List.getElem_mem hk, by rw [h]; simp⟩
theorem namesOk_all {xs : List ByteArray} (h : ∀ j (hj : j < xs.length), nameOk xs[j] = true) : namesOk xs = true := by
  unfold namesOk
  rw [List.all_eq_true]
  intro x hx
  obtain ⟨j, hj, rfl⟩ := List.getElem_of_mem hx
  exact h j hj
theorem namesOk_mem {xs : List ByteArray} (h : namesOk xs = true) {x : ByteArray} (hx : x ∈ xs) : nameOk x = true := by
  unfold namesOk at h
  rw [List.all_eq_true] at h
  exact h x hx
theorem foldl_len : ∀ (xs acc : List ByteArray), (xs.foldl putIn acc).length ≤ acc.length + xs.length
  | [], acc => by simp
  | x :: xs, acc => by
    have h1 := foldl_len xs (putIn acc x)
    have h2 := putIn_len acc x
    simp only [List.foldl_cons, List.length_cons]
    omega
theorem srtOf_len (xs : List ByteArray) : (srtOf xs).length ≤ xs.length := by
  have := foldl_len xs []
  unfold srtOf; simpa using this
theorem sortOut_len (xs : List ByteArray) : (sortOut xs).length ≤ xs.length := by
  unfold sortOut; split
  · exact srtOf_len xs
  · simp
theorem srt_next {xs : List ByteArray} {k : Nat} (h : k < xs.length) : srtOf (xs.take (k + 1)) = putIn (srtOf (xs.take k)) xs[k] := by
  unfold srtOf
  rw [List.take_succ_eq_append_getElem h, List.foldl_append]
  rfl
theorem tot_valid {xs : List ByteArray} : ∀ k, k ≤ xs.length → (∀ j (hj : j < xs.length), j < k → nameOk xs[j] = true) → 2 * k ≤ tot (xs.take k)
  | 0, _, _ => by simp
  | k + 1, hk, h => by
    have h1 := tot_valid k (by omega) fun j hj hjk => h j hj (by omega)
    rw [tot_take_succ (by omega)]
    have := (nameOk_size (h k (by omega) (by omega))).1
    omega
theorem valid_half {xs : List ByteArray} {k : Nat} (hk : k ≤ xs.length) (h : ∀ j (hj : j < xs.length), j < k → nameOk xs[j] = true) (ht : tot xs ≤ 1048576) : k ≤ 524288 := by
  have h1 := tot_valid k hk h
  have h2 := tot_take_le xs k
  omega
/-- Names and a word are handed back. -/
def RetStrsOk (xs : List ByteArray) (ok : Bool) (w : World) (e : Ending) (w' : World) : Prop :=
  ∃ A c, e = .returned (.tuple #[.slice A xs.length c, .bool ok]) ∧ OwnStrs w' w.heap.size A c xs ∧ Below w.heap.size w w'

theorem bad1_any (s : ByteArray) (w : World) (hs : s.size ≤ 9223372036854775807) :
    Calls Try.prog 34 #[.string s] w fun e w' => e = .returned (.bool (!nameOk s)) ∧ w = w' := by
  go_enter Try.func34, Try.ntmps34
  go_wp2_with (go_at_call 35; (with_reducible refine (iNameValid_any s _ hs).mono ?_); rintro e w' ⟨rfl, rfl⟩)
  go_ret
  exact ⟨rfl, rfl⟩

set_option maxHeartbeats 1000000 in
theorem slIdxBad_any (A : Option Addr) (c : Nat) (xs : List ByteArray) (w : World) (B : Nat) (h : Strs w B A c xs) :
    Calls Try.prog 56 #[.slice A xs.length c, .func (Fn.func 34) #[] #[]] w fun e w' => (∃ i : Int, e = .returned (.int .i64 i) ∧ decide (0 ≤ i) = !namesOk xs) ∧ w = w' := by
  have hl := h.len
  have hc := h.cap
  go_enter Try.func56, Try.ntmps56
  go_wp2_with fail
  go_loop [8] (fun i => ∃ k : Nat, k ≤ xs.length ∧ i = .int .i64 k ∧ ∀ j (hj : j < xs.length), j < k → nameOk xs[j] = true) (fun i => xs.length - (intOf i).toNat)
  case atStart => exact ⟨0, Nat.zero_le _, rfl, fun j hj h => absurd h (by omega)⟩
  case round =>
    obtain ⟨k, hk, rfl, hall0⟩ := hrel
    have hall := Lib.hid hall0
    clear hall0
    by_cases hlt : k < xs.length
    · obtain ⟨ad, rfl, _, hcell⟩ := h.at_ hlt
      have hxs := h.lens k hlt
      cases hn : nameOk xs[k]
      · have Hn := Lib.hid hn
        have K := Lib.hid (bad1_any xs[k] w hxs)
        rw [hn] at K
        clear hn
        go_wp2_with (go_at_call 34; (with_reducible refine K.out.mono ?_); rintro e w' ⟨rfl, rfl⟩)
        go_ret
        exact ⟨⟨_, rfl, by rw [namesOk_bad hlt Hn.out]; simp⟩, rfl⟩
      · have Hn := Lib.hid hn
        have K := Lib.hid (bad1_any xs[k] w hxs)
        rw [hn] at K
        clear hn
        go_wp2_with (go_at_call 34; (with_reducible refine K.out.mono ?_); rintro e w' ⟨rfl, rfl⟩)
        go_round
        case rel => exact ⟨k + 1, by omega, by go_num, fun j hj h => by
          by_cases e : j = k
          · subst e; exact Hn.out
          · exact hall.out j hj (by omega)⟩
        case measure => simp [intOf]; omega
    · go_wp2_with fail
      go_ret
      exact ⟨⟨-1, rfl, by rw [namesOk_all fun j hj => hall.out j hj (by omega)]; rfl⟩, rfl⟩

theorem slContainsBad_any (A : Option Addr) (c : Nat) (xs : List ByteArray) (w : World) (B : Nat) (h : Strs w B A c xs) :
    Calls Try.prog 33 #[.slice A xs.length c, .func (Fn.func 34) #[] #[]] w fun e w' => e = .returned (.bool (!namesOk xs)) ∧ w = w' := by
  have K := Lib.hid (slIdxBad_any A c xs w B h)
  go_enter Try.func33, Try.ntmps33
  go_wp2_with (go_at_call 56; (with_reducible refine K.out.mono ?_); rintro e w' ⟨⟨i, rfl, hi⟩, rfl⟩)
  go_ret
  exact ⟨rfl, rfl⟩

set_option maxHeartbeats 1000000 in
theorem clone9_any (A : Option Addr) (c : Nat) (xs : List ByteArray) (w : World) (B : Nat) (h : Strs w B A c xs) (hl : xs.length ≤ 2000000) :
    Calls Try.prog 36 #[.slice A xs.length c] w (RetStrs xs w) := by
  go_enter Try.func36, Try.ntmps36
  go_wp2_with (at_builtin; (refine wpList_append_strs _ rfl (.const (.slice none 0 0)) (.tmp 3) rfl w.heap.size none 0 [] rfl (OwnStrs.nil_ _ _) A c B xs rfl h xs rfl hl (Nat.le_refl _) ?_); intro A3 c3 w3 ho3 hb3 hg3)
  go_ret
  exact ⟨A3, c3, rfl, ho3, hb3⟩

set_option maxHeartbeats 4000000 in
theorem iNamesSort_any (A : Option Addr) (c : Nat) (xs : List ByteArray) (w : World) (B : Nat) (h : Strs w B A c xs) (hl : xs.length ≤ 2000000) :
    Calls Try.prog 12 #[.slice A xs.length c] w (RetStrsOk (sortOut xs) (namesOk xs) w) := by
  have hsl := sortOut_len xs
  have K0 := Lib.hid (slContainsBad_any A c xs w B h)
  cases hok : namesOk xs
  · rw [hok] at K0
    have Hs := Lib.hid (sortOut_no hok)
    clear hok hsl
    go_enter Try.func12, Try.ntmps12
    go_wp2_with (go_at_call 33; (with_reducible refine K0.out.mono ?_); rintro e w' ⟨rfl, rfl⟩)
    refine bodyPost_ret (v := .tuple #[.slice none 0 0, .bool false]) (by simp [results, Try.results12, go_sem]) rfl ?_
    rw [Hs.out]
    exact ⟨none, 0, rfl, OwnStrs.nil_ _ _, Below.refl _ _⟩
  · rw [hok] at K0
    have Hs := Lib.hid (sortOut_yes hok)
    clear hok
    go_enter Try.func12, Try.ntmps12
    go_wp2_with fail
    (with_reducible refine K0.out.mono ?_)
    rintro e w' ⟨rfl, rfl⟩
    go_wp2_with fail
    (with_reducible refine (clone9_any A c xs _ B h hl).mono ?_)
    rintro e w1 ⟨A1, c1, rfl, ho1, hb1⟩
    go_wp2_with fail
    (with_reducible refine (slSort_own A1 c1 xs w1 w.heap.size ho1 hl hb1.size).mono ?_)
    rintro e w2 ⟨rfl, ys, ho2, hy, hys, hb2, hz2⟩
    have K2 := slCompact_own A1 c1 ys w2 w.heap.size ho2 (by omega) (by have := hb1.size; omega)
    rw [hy] at K2
    have Hys := Lib.hid hys
    clear hys
    go_wp2_with fail
    (with_reducible refine K2.mono ?_)
    rintro e w3 ⟨zs, rfl, ho3, hz, hzs, hb3, hz3⟩
    have hzz : zs = srtOf xs := by
      apply to_inj
      rw [hzs, Hys.out]
      exact sorted_srtOf xs
    rw [← Hs.out] at hzz
    subst hzz
    clear hzs Hys K2
    go_wp2_with fail
    (with_reducible refine (clone9_any A1 c1 (sortOut xs) w3 _ ho3.strs (by omega)).mono ?_)
    rintro e w4 ⟨A4, c4, rfl, ho4, hb4⟩
    go_wp2_with fail
    refine bodyPost_ret (v := .tuple #[.slice A4 (sortOut xs).length c4, .bool true]) (by simp [results, Try.results12, go_sem]) rfl ?_
    exact ⟨A4, c4, rfl, ho4.base_ (by have := hb1.size; omega), ((hb1.trans hb2).trans hb3).trans (hb4.mono (by have := hb1.size; omega))⟩

theorem sort_loop_next {xs : List ByteArray} {k : Nat} {ys : List ByteArray} (hk : k < xs.length) (h : Hid (srtOf (xs.take k) = ys)) : srtOf (xs.take (k + 1)) = putIn ys xs[k] := by
  rw [srt_next hk, h.out]

set_option maxHeartbeats 4000000 in
theorem sNamesSort_any (A : Option Addr) (c : Nat) (xs : List ByteArray) (w : World) (B : Nat) (h : Strs w B A c xs) (ht : tot xs ≤ 1048576) :
    Calls Try.prog 13 #[.slice A xs.length c] w (RetStrsOk (sortOut xs) (namesOk xs) w) := by
  have h1 := h.len
  have h2 := h.cap
  have oz := own_lit0 w w.heap.size (Nat.le_refl _)
  go_enter Try.func13, Try.ntmps13
  go_wp2_with fail
  go_loopw [4, 5] (fun o i wr => ∃ (k : Nat) (A' : Option Addr) (c' : Nat) (ys : List ByteArray), k ≤ xs.length ∧ i = .int .i64 k ∧ o = .slice A' ys.length c' ∧ OwnStrs wr w.heap.size A' c' ys ∧ Below w.heap.size w wr ∧ Hid (srtOf (xs.take k) = ys) ∧ Hid (∀ j (hj : j < xs.length), j < k → nameOk xs[j] = true) ∧ ys.length ≤ k) (fun _ i _ => xs.length - (intOf i).toNat)
  case atStart => exact ⟨0, some ⟨w.heap.size, 0, none⟩, 0, [], Nat.zero_le _, rfl, rfl, oz, (Below.refl _ _).alloc (Nat.le_refl _) _, Lib.hid rfl, Lib.hid (fun j hj h => absurd h (by omega)), Nat.zero_le _⟩
  case round =>
    clear oz
    obtain ⟨k, A', c', ys, hk, rfl, rfl, ho, hb, hgo, hall, hyl⟩ := hrel
    have hbs := hb.size
    have hk5 : k ≤ 524288 := valid_half hk hall.out ht
    by_cases hlt : k < xs.length
    · obtain ⟨ad, rfl, had, hc⟩ := (h.then_ hb).at_ hlt
      have hxs := h.lens k hlt
      have hi0 : (0 : Int) ≤ k := by omega
      have hi1 : (k : Int) < xs.length := by omega
      have KN := Lib.hid (sNameValid_any xs[k] wr hxs)
      cases hn : nameOk xs[k]
      · rw [hn] at KN
        have Hs := Lib.hid (sortOut_no (namesOk_bad hlt hn))
        have Hn := Lib.hid (namesOk_bad hlt hn)
        clear hn
        go_wp2_with (go_at_call 39; (with_reducible refine KN.out.mono ?_); rintro e w' ⟨rfl, rfl⟩)
        refine bodyPost_ret (v := .tuple #[.slice (some ⟨wr.heap.size, 0, none⟩) 0 0, .bool false]) (by simp [results, Try.results13, go_sem]) rfl ?_
        rw [Hs.out, Hn.out]
        exact ⟨some ⟨wr.heap.size, 0, none⟩, 0, rfl, own_lit0 wr _ hbs, hb.alloc hbs _⟩
      · rw [hn] at KN
        have Hn := Lib.hid hn
        have Hx := Lib.hid (sort_loop_next hlt hgo)
        have K1 := Lib.hid (l1Put_any A' c' ys xs[k] wr _ ho.strs hxs (by omega))
        have hpl := putIn_len ys xs[k]
        clear hn
        go_wp2_with fail
        (with_reducible refine KN.out.mono ?_)
        rintro e w' ⟨rfl, rfl⟩
        go_wp2_with fail
        (with_reducible refine K1.out.mono ?_)
        rintro e w3 ⟨A3, c3, rfl, ho3, hb3⟩
        go_wp2_with fail
        go_roundw
        case rel => exact ⟨k + 1, A3, c3, putIn ys xs[k], by omega, by go_num, rfl, ho3.base_ hbs, bthen hb hb3, Lib.hid Hx.out, Lib.hid (fun j hj h => by
          by_cases e : j = k
          · subst e; exact Hn.out
          · exact hall.out j hj (by omega)), by omega⟩
        case measure => simp [intOf]; omega
    · have hke : k = xs.length := by omega
      subst hke
      have Hok := Lib.hid (namesOk_all fun j hj => hall.out j hj hj)
      have Hs := Lib.hid (sortOut_yes Hok.out)
      have hy : ys = srtOf xs := by rw [← hgo.out, List.take_length]
      rw [← Hs.out] at hy
      subst hy
      clear hgo hall
      go_wp2_with fail
      refine bodyPost_ret (v := .tuple #[.slice A' (sortOut xs).length c', .bool true]) (by simp [results, Try.results13, go_sem]) rfl ?_
      rw [Hok.out]
      exact ⟨A', c', rfl, ho, hb⟩
end Go.Proofs.Ytcdccdgegmnhnaa
