/- Plain laws on what NamesSort hands back, and the draw of names to sort. Condition: lengths as Go has them. -/
import Derived.Test.YtcdccdgegmnhnaaSortFns
import Derived.Test.YtcdccdgegmnhnaaTexts
import Derived.Test.YtcdccdgegmnhnaaDrawLists
namespace Go.Proofs.Ytcdccdgegmnhnaa
set_option linter.unusedVariables false
set_option maxRecDepth 100000
open Go.RowKit

theorem sort_has {xs : List ByteArray} (h : namesOk xs = true) : haveAll (sortOut xs) xs = true := by
  rw [haveAll_iff, sortOut_yes h]
  exact fun y hy => mem_srtOf.2 hy
theorem sort_had {xs : List ByteArray} (h : namesOk xs = true) : haveAll xs (sortOut xs) = true := by
  rw [haveAll_iff, sortOut_yes h]
  exact fun y hy => mem_srtOf.1 hy
theorem sort_up {xs : List ByteArray} (h : namesOk xs = true) {k : Nat} (h0 : 0 < k) (hk : k < (sortOut xs).length) : blt ((sortOut xs)[k - 1]'(by omega)) (sortOut xs)[k] = true := by
  have hs : Srt (sortOut xs) := by rw [sortOut_yes h]; exact srtOf_srt xs
  exact List.pairwise_iff_getElem.1 hs (k - 1) k (by omega) hk (by omega)
theorem sortOk {xs : List ByteArray} (h : namesOk xs = true) : namesOk (sortOut xs) = true := by
  unfold namesOk
  rw [List.all_eq_true, sortOut_yes h]
  exact fun x hx => namesOk_mem h (mem_srtOf.1 hx)
theorem sort_twice {xs : List ByteArray} (h : namesOk xs = true) : sortOut (sortOut xs) = sortOut xs := by
  rw [sortOut_yes (sortOk h), sortOut_yes h]
  exact srt_ext (srtOf_srt _) (srtOf_srt _) fun x => by rw [mem_srtOf]
theorem revOk {xs : List ByteArray} (h : namesOk xs = true) : namesOk xs.reverse = true := by
  unfold namesOk
  rw [List.all_eq_true]
  exact fun x hx => namesOk_mem h (List.mem_reverse.1 hx)
theorem sort_rev {xs : List ByteArray} (h : namesOk xs = true) : sortOut xs.reverse = sortOut xs := by
  rw [sortOut_yes (revOk h), sortOut_yes h]
  exact srt_ext (srtOf_srt _) (srtOf_srt _) fun x => by rw [mem_srtOf, mem_srtOf, List.mem_reverse]
theorem nodup_sub : ∀ l1 l2 : List ByteArray, l1.Nodup → (∀ x ∈ l1, x ∈ l2) → l1.length ≤ l2.length
  | [], _, _, _ => Nat.zero_le _
  | a :: t, l2, hn, hs => by
    obtain ⟨h1, h2⟩ := List.nodup_cons.1 hn
    have ha := hs a (by simp)
    have := nodup_sub t (l2.erase a) h2 fun x hx => (List.mem_erase_of_ne (show x ≠ a from fun e => h1 (e ▸ hx))).2 (hs x (by simp [hx]))
    rw [List.length_erase_of_mem ha] at this
    have := List.length_pos_of_mem ha
    simp only [List.length_cons]
    omega
theorem srt_nodup {xs : List ByteArray} (h : Srt xs) : xs.Nodup := List.Pairwise.imp (fun {a b} h => by rintro rfl; rw [blt_irrefl] at h; cases h) h
/-- Among the first k names one lies twice. -/
def dup (xs : List ByteArray) (k : Nat) : Bool := (List.range k).any fun j => decide (place xs (xs.getD j ByteArray.empty) < j)
theorem dup_zero (xs : List ByteArray) : dup xs 0 = false := rfl
theorem dup_succ {xs : List ByteArray} {k : Nat} (h : k < xs.length) : dup xs (k + 1) = (dup xs k || decide (place xs xs[k] < k)) := by
  unfold dup
  rw [List.range_succ, List.any_append]
  simp [List.getElem?_eq_getElem h]
theorem dup_yes {xs : List ByteArray} (hok : namesOk xs = true) (h : dup xs xs.length = true) : (sortOut xs).length < xs.length := by
  unfold dup at h
  rw [List.any_eq_true] at h
  obtain ⟨j, hj, h⟩ := h
  have hj' : j < xs.length := List.mem_range.1 hj
  have h := of_decide_eq_true h
  rw [show xs.getD j ByteArray.empty = xs[j] by simp [hj']] at h
  rcases place_lt xs xs[j] with hp | ⟨h0, hl, he, _⟩
  · have := place_mem (List.getElem_mem hj')
    omega
  · have hij : (place xs xs[j]).toNat ≠ j := by omega
    have : (sortOut xs).length ≤ (xs.eraseIdx j).length := by
      refine nodup_sub _ _ (by rw [sortOut_yes hok]; exact srt_nodup (srtOf_srt xs)) fun x hx => ?_
      rw [sortOut_yes hok, mem_srtOf] at hx
      obtain ⟨i, hi, e⟩ := List.getElem_of_mem hx
      rw [List.mem_eraseIdx_iff_getElem]
      by_cases hij2 : i = j
      · subst hij2
        exact ⟨_, hl, hij, he.trans e⟩
      · exact ⟨i, hi, hij2, e⟩
    rw [List.length_eraseIdx_of_lt hj'] at this
    omega
theorem dup_no {xs : List ByteArray} (hok : namesOk xs = true) (h : dup xs xs.length = false) : (sortOut xs).length = xs.length := by
  refine Nat.le_antisymm (sortOut_len xs) (nodup_sub _ _ ?_ fun x hx => by rw [sortOut_yes hok, mem_srtOf]; exact hx)
  unfold dup at h
  rw [List.any_eq_false] at h
  refine List.pairwise_iff_getElem.2 fun i j hi hj hij e => ?_
  have := h j (List.mem_range.2 hj)
  rw [show xs.getD j ByteArray.empty = xs[j] by simp [hj]] at this
  apply this
  rw [decide_eq_true_eq]
  rcases place_lt xs xs[j] with hp | ⟨h0, hl, he, hb⟩
  · omega
  · rcases Nat.lt_or_ge i (place xs xs[j]).toNat with hlt | hge
    · exact absurd e (hb i hi hlt)
    · omega

theorem tot_small : ∀ {xs : List ByteArray}, (∀ x ∈ xs, x.size ≤ 6) → tot xs ≤ 7 * xs.length
  | [], _ => by simp [tot]
  | x :: xs, h => by
    have h1 := tot_small (xs := xs) fun y hy => h y (by simp [hy])
    have h2 := h x (by simp)
    simp only [tot, List.length_cons]
    omega
/-- Names are drawn. -/
def DrawnOne (w : World) (e : Ending) (w' : World) : Prop :=
  ∃ (A : Option Addr) (c : Nat) (xs : List ByteArray), e = .returned (.slice A xs.length c) ∧ OwnStrs w' w.heap.size A c xs ∧ xs.length ≤ 5 ∧ tot xs ≤ 100 ∧ Below w.heap.size w w'
theorem drawNamesSort_any (A : Option Addr) (c : Nat) (zs : List Int) (w : World) (h : Byts w w.heap.size A c zs) :
    Calls Try.prog 11 #[.slice A zs.length c] w (DrawnOne w) := by
  go_enter Try.func11, Try.ntmps11
  go_wp2_with fail
  refine (open_any w.heap.size A c zs w h (Nat.le_refl _)).mono ?_
  rintro e w1 ⟨zs, rfl, hr1, hb1, hz1⟩
  have hz1' : w.heap.size < w1.heap.size := by omega
  clear hz1
  go_wp2_with fail
  refine (l91Names_any w.heap.size w.heap.size A c zs 0 w1 hr1 (by omega)).mono ?_
  rintro e w2 ⟨A1, c1, xs, p1, rfl, ho1, hx5, hx6, hp1, hr2, hg2⟩
  go_wp2_with fail
  go_ret
  have ht := tot_small hx6
  exact ⟨A1, c1, xs, rfl, ho1.base_ (by omega), hx5, by omega, hb1.trans (grown_below hg2 (Nat.le_refl _) hb1.size)⟩
theorem sort_K (A : Option Addr) (c n : Nat) (xs ys : List ByteArray) (w : World) (B : Nat) (h : Strs w B A c xs) (hl : xs.length ≤ 2000000) (hn : xs.length = n) (h1 : sortOut xs = ys) (h2 : namesOk xs = true) :
    Calls Try.prog 12 #[.slice A n c] w (RetStrsOk ys true w) := by
  subst hn h1
  rw [← h2]
  exact iNamesSort_any A c xs w B h hl
theorem have_K (A A' : Option Addr) (c c' : Nat) (xs ys : List ByteArray) (w : World) (B B' : Nat) (h : Strs w B A c xs) (h' : Strs w B' A' c' ys) (hh : haveAll xs ys = true) :
    Calls Try.prog 21 #[.slice A xs.length c, .slice A' ys.length c'] w fun e w' => e = .returned (.bool true) ∧ w = w' := by
  rw [← hh]
  exact iNamesHave_any A A' c c' xs ys w B B' h h'
end Go.Proofs.Ytcdccdgegmnhnaa
