/- Contracts of the reference's functions on steps: l2At, l2Next, l2Order. Condition: all names of the steps are there (l2Order). -/
import Derived.Test.YtdjgpoenlmhonaaFlows
import Derived.Deep.QuietTactic
import Derived.BigQuiet
namespace Go.Proofs.Ytdjgpoenlmhonaa
set_option linter.unusedVariables false
set_option maxRecDepth 100000
open Go.RowKit

theorem names_get {ss : List St} {k : Nat} (h : k < ss.length) : (names ss)[k]'(by rw [names_length]; exact h) = ss[k].name := by simp [names]

set_option maxHeartbeats 400000 in
theorem l2At_any (A : Option Addr) (c : Nat) (ss : List St) (s : ByteArray) (w : World) (B : Nat) (h : Sts w B A c ss) :
    Calls Try.prog 17 #[.slice A ss.length c, .string s] w fun e w' => e = .returned (.int .i64 (place (names ss) s)) ∧ w = w' := by
  have hl := h.len
  have hc := h.cap
  go_enter Try.func17, Try.ntmps17
  go_wp2
  go_loop [5] (fun i => ∃ k : Nat, k ≤ ss.length ∧ i = .int .i64 k ∧ ∀ j (hj : j < ss.length), j < k → ss[j].name ≠ s) (fun i => ss.length - (intOf i).toNat)
  case atStart => exact ⟨0, Nat.zero_le _, rfl, fun j hj h => absurd h (by omega)⟩
  case round =>
    obtain ⟨k, hk, rfl, hall0⟩ := hrel
    have hall := Lib.hid hall0
    clear hall0
    by_cases hlt : k < ss.length
    · obtain ⟨ad, A1, c1, rfl, _, hc0, hc1, hc2, hs⟩ := h.at_ hlt
      go_wp2
      · have he := str_eq (by assumption : (ss[k].name.toList == s.toList) = true)
        go_ret
        exact ⟨ret_int (place_at (xs := names ss) (k := k) (by rw [names_length]; exact hlt) (by rw [names_get hlt]; exact he) (fun j hj h => by
          have hj' : j < ss.length := by rw [names_length] at hj; exact hj
          rw [names_get hj']; exact hall.out j hj' h)).symm, rfl⟩
      · have he := str_ne (by assumption : (ss[k].name.toList == s.toList) = false)
        go_round
        case rel => exact ⟨k + 1, by omega, by go_num, fun j hj h => by
          by_cases e : j = k
          · subst e; exact he
          · exact hall.out j hj (by omega)⟩
        case measure => simp [intOf]; omega
    · go_wp2
      go_ret
      exact ⟨ret_int (place_none (xs := names ss) (fun j hj => by
        have hj' : j < ss.length := by rw [names_length] at hj; exact hj
        rw [names_get hj']; exact hall.out j hj' (by omega))).symm, rfl⟩

/-- The first step that is ready, or no name. -/
def firstReady (ss : List St) (done : List ByteArray) : ByteArray := (ready ss done).headD ⟨#[]⟩
theorem firstReady_at {ss : List St} {done : List ByteArray} {k : Nat} (hk : k < ss.length) (h : isReady done ss[k] = true) (hb : ready (ss.take k) done = []) : firstReady ss done = ss[k].name := by
  have h1 := ready_take_succ hk done
  rw [hb, h] at h1
  have h2 : ready ss done = ready (ss.take (k + 1)) done ++ ready (ss.drop (k + 1)) done := by
    unfold ready names
    rw [← List.map_append, ← List.filter_append, List.take_append_drop]
  unfold firstReady
  rw [h2, h1]
  rfl
theorem firstReady_none {ss : List St} {done : List ByteArray} (h : ready ss done = []) : firstReady ss done = ⟨#[]⟩ := by unfold firstReady; rw [h]; rfl

theorem ret_str {a b : ByteArray} (h : a = b) : Ending.returned (.string a) = .returned (.string b) := by rw [h]
theorem place_neg_of_has {xs : List ByteArray} {s : ByteArray} (h : has xs s = false) : place xs s < 0 := by
  rw [has_place] at h; have := of_decide_eq_false h; omega
theorem place_pos_of_has {xs : List ByteArray} {s : ByteArray} (h : has xs s = true) : 0 ≤ place xs s := by
  rw [has_place] at h; exact of_decide_eq_true h

set_option maxHeartbeats 1000000 in
theorem l2Next_any (A D : Option Addr) (c d : Nat) (ss : List St) (done : List ByteArray) (w : World) (B B' : Nat) (h : Sts w B A c ss) (hd : Strs w B' D d done) :
    Calls Try.prog 34 #[.slice A ss.length c, .slice D done.length d] w fun e w' => e = .returned (.string (firstReady ss done)) ∧ w = w' := by
  have hl := h.len
  have hc := h.cap
  go_enter Try.func34, Try.ntmps34
  go_wp2_with fail
  go_loop [5] (fun i => ∃ k : Nat, k ≤ ss.length ∧ i = .int .i64 k ∧ ready (ss.take k) done = []) (fun i => ss.length - (intOf i).toNat)
  case atStart => exact ⟨0, Nat.zero_le _, rfl, rfl⟩
  case round =>
    obtain ⟨k, hk, rfl, hno0⟩ := hrel
    have hno := Lib.hid hno0
    clear hno0
    by_cases hlt : k < ss.length
    · obtain ⟨ad, A1, c1, rfl, _, hc0, hc1, hc2, hs⟩ := h.at_ hlt
      have hrs := Lib.hid (ready_take_succ hlt done)
      cases hh : has done ss[k].name
      · have hp := place_neg_of_has hh
        cases hv : haveAll done ss[k].after
        · have hr : isReady done ss[k] = false := by unfold isReady; rw [hh, hv]; rfl
          have Hr := Lib.hid hr
          clear hr
          go_wp2_with (first
            | (go_at_call 18; (with_reducible refine (l1At_any _ _ _ _ _ _ hd).mono ?_); rintro e w' ⟨rfl, rfl⟩)
            | (go_at_call 36; (with_reducible refine (l1Have_any _ _ _ _ _ _ _ _ _ hd hs).mono ?_); rintro e w' ⟨rfl, rfl⟩; rw [hv]))
          go_round
          case rel => exact ⟨k + 1, by omega, by go_num, by rw [hrs.out, Hr.out, hno.out]; rfl⟩
          case measure => simp [intOf]; omega
        · have hr : isReady done ss[k] = true := by unfold isReady; rw [hh, hv]; rfl
          have Hr := Lib.hid (firstReady_at hlt hr hno.out)
          clear hr
          go_wp2_with (first
            | (go_at_call 18; (with_reducible refine (l1At_any _ _ _ _ _ _ hd).mono ?_); rintro e w' ⟨rfl, rfl⟩)
            | (go_at_call 36; (with_reducible refine (l1Have_any _ _ _ _ _ _ _ _ _ hd hs).mono ?_); rintro e w' ⟨rfl, rfl⟩; rw [hv]))
          go_ret
          exact ⟨ret_str Hr.out.symm, rfl⟩
      · have hp := place_pos_of_has hh
        have hr : isReady done ss[k] = false := by unfold isReady; rw [hh]; rfl
        have Hr := Lib.hid hr
        clear hr
        go_wp2_with (go_at_call 18; (with_reducible refine (l1At_any _ _ _ _ _ _ hd).mono ?_); rintro e w' ⟨rfl, rfl⟩)
        go_round
        case rel => exact ⟨k + 1, by omega, by go_num, by rw [hrs.out, Hr.out, hno.out]; rfl⟩
        case measure => simp [intOf]; omega
    · have hk' : ss.take k = ss := List.take_of_length_le (by omega)
      have Hk := Lib.hid hk'
      clear hk'
      go_wp2_with fail
      go_ret
      exact ⟨ret_str (firstReady_none (by rw [← Hk.out]; exact hno.out)).symm, rfl⟩

set_option maxHeartbeats 1000000 in
theorem l2Order_any (A : Option Addr) (c : Nat) (ss : List St) (w : World) (B : Nat) (h : Sts w B A c ss) (hn : ∀ s ∈ ss, s.name ≠ ⟨#[]⟩) (hl : ss.length ≤ 2000000) :
    Calls Try.prog 29 #[.slice A ss.length c] w (RetStrs (ord ss) w) := by
  have h1 := h.len
  have h2 := h.cap
  go_enter Try.func29, Try.ntmps29
  go_wp2_with fail
  have ho0 : OwnStrs (w.alloc (.cells #[] 9)) w.heap.size (some ⟨w.heap.size, 0, none⟩) 0 [] := ⟨World.ownsRow_lit w #[] 0 (Nat.le_refl _) (by simp only [maxLen]; omega) rfl, fun x hx => by cases hx⟩
  go_loopw [3, 4] (fun out i wr => ∃ (k : Nat) (A' : Option Addr) (c' : Nat), k ≤ ss.length ∧ i = .int .i64 k ∧ out = .slice A' (ordN ss k).length c' ∧ OwnStrs wr w.heap.size A' c' (ordN ss k) ∧ Below w.heap.size w wr) (fun _ i _ => ss.length - (intOf i).toNat)
  case atStart => exact ⟨0, _, 0, Nat.zero_le _, rfl, rfl, ho0, (Below.refl _ _).alloc (Nat.le_refl _) _⟩
  case round =>
    clear ho0
    obtain ⟨k, A', c', hk, rfl, rfl, ho, hb⟩ := hrel
    by_cases hlt : k < ss.length
    · have hst := h.then_ hb
      have hbs := hb.size
      cases hr : ready ss (ordN ss k) with
      | nil =>
        have hs := Lib.hid (ordN_stop hr)
        have hf := Lib.hid (firstReady_none hr)
        clear hr
        go_wp2_with (go_at_call 34; (with_reducible refine (l2Next_any _ _ _ _ _ _ _ _ _ hst ho.strs).mono ?_); rintro e w' ⟨rfl, rfl⟩; rw [hf.out])
        go_roundw
        case rel => exact ⟨k + 1, A', c', by omega, by go_num, by rw [hs.out], by rw [hs.out]; exact ho, hb⟩
        case measure => simp [intOf]; omega
      | cons n r =>
        have hs := Lib.hid (ordN_next hr)
        have hf := Lib.hid (show firstReady ss (ordN ss k) = n by unfold firstReady; rw [hr]; rfl)
        have hn1 : n ∈ names ss := ready_sub (done := ordN ss k) (by rw [hr]; simp)
        have hn2 : n ≠ ⟨#[]⟩ ∧ n.size ≤ 9223372036854775807 := by
          obtain ⟨s, hm, rfl⟩ := List.mem_map.1 hn1
          refine ⟨hn s hm, ?_⟩
          obtain ⟨j, hj, rfl⟩ := List.getElem_of_mem hm
          exact h.lens j hj
        obtain ⟨hn3, hn4⟩ := hn2
        have hne : n.toList.isEmpty = false := by
          cases he : n.toList.isEmpty
          · rfl
          · exfalso; apply hn3
            apply str_eq
            have e1 : n.toList = [] := List.isEmpty_iff.1 he
            rw [e1]; simp
        have hlen := ordN_length_le ss k
        clear hr hn1 hn3
        go_wp2_with (first
          | (go_at_call 34; (with_reducible refine (l2Next_any _ _ _ _ _ _ _ _ _ hst ho.strs).mono ?_); rintro e w' ⟨rfl, rfl⟩; rw [hf.out])
          | (at_builtin; (refine wpList_append_name _ rfl (.tmp 18) (.tmp 20) rfl w.heap.size A' c' _ rfl (ho.alloc _) ⟨wr.heap.size, 0, none⟩ 1 n rfl (cell_new1 _ _ _) hn4 (by omega) (by simp; omega) ?_); intro A3 c3 w3 hap))
        go_roundw
        case rel =>
          obtain ⟨hown, hlow, hgr, _⟩ := hap
          rw [← hs.out] at hown
          refine ⟨k + 1, A3, c3, by omega, by go_num, ?_, hown, ?_⟩
          · rw [hs.out]; simp
          · exact (hb.alloc hbs _).trans hlow
        case measure => simp [intOf]; omega
    · obtain rfl : k = ss.length := by omega
      go_wp2_with fail
      go_ret
      exact ⟨A', c', rfl, ho, hb⟩
end Go.Proofs.Ytdjgpoenlmhonaa
