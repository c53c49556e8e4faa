/- Contracts of the flows' own functions: names, ready, order. Condition: at most 2000000 steps. -/
import Derived.Test.YtdjgpoenlmhonaaNames
import Derived.Test.YtdjgpoenlmhonaaAppend
import Derived.Test.YtdjgpoenlmhonaaSteps
import Derived.Test.YtdjgpoenlmhonaaFlowWords
namespace Go.Proofs.Ytdjgpoenlmhonaa
set_option linter.unusedVariables false
set_option maxRecDepth 100000
open Go.RowKit

/-- A flow's value. -/
abbrev flowV (ver : Int) (A : Option Addr) (n c : Nat) : Value := .agg #[.int .i64 ver, .slice A n c]

theorem names_take_succ {ss : List St} {k : Nat} (h : k < ss.length) : names (ss.take (k + 1)) = names (ss.take k) ++ [ss[k].name] := by
  unfold names
  rw [List.take_succ_eq_append_getElem h, List.map_append]; rfl
theorem names_length (ss : List St) : (names ss).length = ss.length := by simp [names]

theorem cell_new1' (w : World) (o : Obj) (v : Value) (t : TypeId) : ((w.alloc o).alloc (.cells #[v] t)).cell? ⟨w.heap.size + 1, 0, none⟩ = some v := by
  simp

set_option maxHeartbeats 1000000 in
theorem names_any (ver : Int) (A : Option Addr) (c : Nat) (ss : List St) (w : World) (B : Nat) (h : Sts w B A c ss) (hl : ss.length ≤ 2000000) :
    Calls Try.prog 15 #[flowV ver A ss.length c] w (RetStrs (names ss) w) := by
  have h1 := h.len
  have h2 := h.cap
  go_enter Try.func15, Try.ntmps15
  go_wp2_with fail
  go_loopw [3, 9] (fun out i wr => ∃ (k : Nat) (A' : Option Addr) (c' : Nat), k ≤ ss.length ∧ i = .int .i64 k ∧ out = .slice A' (names (ss.take k)).length c' ∧ OwnStrs wr w.heap.size A' c' (names (ss.take k)) ∧ Below w.heap.size w wr) (fun _ i _ => ss.length - (intOf i).toNat)
  case atStart => exact ⟨0, none, 0, Nat.zero_le _, rfl, rfl, OwnStrs.nil_ _ _, (Below.refl _ _).alloc (Nat.le_refl _) _⟩
  case round =>
    obtain ⟨k, A', c', hk, rfl, rfl, ho, hb⟩ := hrel
    by_cases hlt : k < ss.length
    · obtain ⟨ad, A1, c1, rfl, _, hc0, hc1, hc2, hs⟩ := (h.then_ hb).at_ hlt
      have hsz := h.lens k hlt
      have hns := names_take_succ hlt
      have hnl : (names (ss.take k)).length = k := by rw [names_length]; simp; omega
      have hbs := hb.size
      have ho2 := (ho.alloc (.cells #[.string ss[k].name, .slice A1 ss[k].after.length c1, .bool ss[k].undo] 32)).alloc (.cells #[.string ss[k].name] 9)
      go_wp2_with (at_builtin; (refine wpList_append_name _ rfl (.tmp 13) (.tmp 16) rfl w.heap.size A' c' _ rfl ho2 ⟨wr.heap.size + 1, 0, none⟩ 1 ss[k].name rfl (cell_new1' _ _ _ _) hsz (by omega) (by simp; omega) ?_); intro A3 c3 w3 hap)
      go_roundw
      case rel =>
        obtain ⟨hown, hlow, hgr, _⟩ := hap
        rw [← hns] at hown
        refine ⟨k + 1, A3, c3, by omega, by go_num, ?_, hown, ?_⟩
        · rw [hns]; simp; omega
        · exact (((hb.alloc hbs _).alloc (by simp; omega) _)).trans hlow
      case measure => simp [intOf]; omega
    · have hk' : ss.take k = ss := List.take_of_length_le (by omega)
      rw [hk'] at ho
      rw [hk']
      go_wp2_with fail
      go_ret
      exact ⟨A', c', rfl, ho, hb⟩

set_option maxHeartbeats 1000000 in
theorem ready_any (ver : Int) (A D : Option Addr) (c d : Nat) (ss : List St) (done : List ByteArray) (w : World) (B B' : Nat) (h : Sts w B A c ss) (hd : Strs w B' D d done) (hl : ss.length ≤ 2000000) :
    Calls Try.prog 26 #[flowV ver A ss.length c, .slice D done.length d] w (RetStrs (ready ss done) w) := by
  have h1 := h.len
  have h2 := h.cap
  go_enter Try.func26, Try.ntmps26
  go_wp2_with fail
  go_loopw [5, 11] (fun out i wr => ∃ (k : Nat) (A' : Option Addr) (c' : Nat), k ≤ ss.length ∧ i = .int .i64 k ∧ out = .slice A' (ready (ss.take k) done).length c' ∧ OwnStrs wr w.heap.size A' c' (ready (ss.take k) done) ∧ Below w.heap.size w wr) (fun _ i _ => ss.length - (intOf i).toNat)
  case atStart => exact ⟨0, none, 0, Nat.zero_le _, rfl, rfl, OwnStrs.nil_ _ _, (Below.refl _ _).alloc (Nat.le_refl _) _⟩
  case round =>
    obtain ⟨k, A', c', hk, rfl, rfl, ho, hb⟩ := hrel
    by_cases hlt : k < ss.length
    · obtain ⟨ad, A1, c1, rfl, _, hc0, hc1, hc2, hs⟩ := (h.then_ hb).at_ hlt
      have hsz := h.lens k hlt
      have hrs := ready_take_succ hlt done
      have hbs := hb.size
      have hb2 := hb.alloc hbs (.cells #[.string ss[k].name, .slice A1 ss[k].after.length c1, .bool ss[k].undo] 32)
      have hd2 := (hd.fit.alloc (Nat.le_refl _) (.cells #[.int .i64 ver, .slice (some ad) ss.length c] 25))
      have hd3 := (hd.then_ hb2)
      have hs2 := hs.alloc hbs (.cells #[.string ss[k].name, .slice A1 ss[k].after.length c1, .bool ss[k].undo] 32)
      have ho1 := ho.alloc (.cells #[.string ss[k].name, .slice A1 ss[k].after.length c1, .bool ss[k].undo] 32)
      cases hh : has done ss[k].name
      · cases hv : haveAll done ss[k].after
        · have hr : isReady done ss[k] = false := by unfold isReady; rw [hh, hv]; rfl
          rw [hr] at hrs
          simp only [Bool.false_eq_true, if_false, List.append_nil] at hrs
          go_wp2_with (first
            | (go_at_call 31; (with_reducible refine (slContains_any _ _ _ _ _ _ hd3).mono ?_); rintro e w' ⟨rfl, rfl⟩; rw [hh])
            | (go_at_call 22; (with_reducible refine (iNamesHave_any _ _ _ _ _ _ _ _ _ hd3 hs2).mono ?_); rintro e w' ⟨rfl, rfl⟩; rw [hv]))
          go_roundw
          case rel => exact ⟨k + 1, A', c', by omega, by go_num, by rw [hrs], by rw [hrs]; exact ho1, hb2⟩
          case measure => simp [intOf]; omega
        · have hr : isReady done ss[k] = true := by unfold isReady; rw [hh, hv]; rfl
          rw [hr] at hrs
          simp only [if_true] at hrs
          have hrl : (ready (ss.take k) done).length ≤ 2000000 := by have := ready_length (ss.take k) done; simp at this; omega
          have ho2 := ho1.alloc (.cells #[.string ss[k].name] 9)
          go_wp2_with (first
            | (go_at_call 31; (with_reducible refine (slContains_any _ _ _ _ _ _ hd3).mono ?_); rintro e w' ⟨rfl, rfl⟩; rw [hh])
            | (go_at_call 22; (with_reducible refine (iNamesHave_any _ _ _ _ _ _ _ _ _ hd3 hs2).mono ?_); rintro e w' ⟨rfl, rfl⟩; rw [hv])
            | (at_builtin; (refine wpList_append_name _ rfl (.tmp 26) (.tmp 29) rfl w.heap.size A' c' _ rfl ho2 ⟨wr.heap.size + 1, 0, none⟩ 1 ss[k].name rfl (cell_new1' _ _ _ _) hsz hrl (by simp; omega) ?_); intro A3 c3 w3 hap))
          go_roundw
          case rel =>
            obtain ⟨hown, hlow, hgr, _⟩ := hap
            rw [← hrs] at hown
            refine ⟨k + 1, A3, c3, by omega, by go_num, ?_, hown, ?_⟩
            · rw [hrs]; simp
            · exact (hb2.alloc (by simp; omega) _).trans hlow
          case measure => simp [intOf]; omega
      · have hr : isReady done ss[k] = false := by unfold isReady; rw [hh]; rfl
        rw [hr] at hrs
        simp only [Bool.false_eq_true, if_false, List.append_nil] at hrs
        go_wp2_with (go_at_call 31; (with_reducible refine (slContains_any _ _ _ _ _ _ hd3).mono ?_); rintro e w' ⟨rfl, rfl⟩; rw [hh])
        go_roundw
        case rel => exact ⟨k + 1, A', c', by omega, by go_num, by rw [hrs], by rw [hrs]; exact ho1, hb2⟩
        case measure => simp [intOf]; omega
    · have hk' : ss.take k = ss := List.take_of_length_le (by omega)
      rw [hk'] at ho
      rw [hk']
      go_wp2_with fail
      go_ret
      exact ⟨A', c', rfl, ho, hb⟩

def slLen : Value → Nat
  | .slice _ n _ => n
  | _ => 0

set_option maxHeartbeats 1000000 in
theorem order_any (ver : Int) (A : Option Addr) (c : Nat) (ss : List St) (w : World) (B : Nat) (h : Sts w B A c ss) (hl : ss.length ≤ 2000000) :
    Calls Try.prog 14 #[flowV ver A ss.length c] w (RetStrs (ord ss) w) := by
  have h1 := h.len
  have h2 := h.cap
  go_enter Try.func14, Try.ntmps14
  go_wp2_with fail
  go_loopw [3] (fun out wr => ∃ (k : Nat) (A' : Option Addr) (c' : Nat), out = .slice A' (ordN ss k).length c' ∧ (ordN ss k).length = k ∧ k ≤ ss.length ∧ OwnStrs wr (w.heap.size + 1) A' c' (ordN ss k) ∧ Below w.heap.size w wr ∧ w.heap.size + 1 ≤ wr.heap.size ∧
      wr.cell? ⟨w.heap.size, 0, none⟩ = some (.int .i64 ver) ∧ wr.cell? ⟨w.heap.size, 1, none⟩ = some (.slice A ss.length c)) (fun out _ => ss.length - slLen out)
  case atStart => exact ⟨0, none, 0, rfl, rfl, Nat.zero_le _, OwnStrs.nil_ _ _, (Below.refl _ _).alloc (Nat.le_refl _) _, by simp, by simp, by simp⟩
  case round =>
    obtain ⟨k, A', c', rfl, hlen, hk, ho, hb, hsz, hc0, hc1⟩ := hrel
    have hst := h.then_ hb
    have Hlen := Lib.hid hlen
    clear hlen
    go_wp2_with fail
    with_reducible refine (ready_any ver A A' c c' ss (ordN ss k) wr _ _ hst ho.strs hl).mono ?_
    rintro e w1 ⟨A1, c1, rfl, ho1, hb1⟩
    obtain ⟨hcc, hff⟩ := bcell hb1
    have hsz1 := hb1.size
    have hb2 := bthen hb hb1
    have ho2 := ho.below hb1
    have d0 : w1.cell? ⟨w.heap.size, 0, none⟩ = some (.int .i64 ver) := (hcc _ _ (by omega)).trans hc0
    have d1 : w1.cell? ⟨w.heap.size, 1, none⟩ = some (.slice A ss.length c) := (hcc _ _ (by omega)).trans hc1
    clear hcc hff
    cases hr : ready ss (ordN ss k) with
    | nil =>
      have hord := ord_of_stop hk hr
      have hrl : (ready ss (ordN ss k)).length = 0 := by rw [hr]; rfl
      go_wp2_with fail
      go_ret
      rw [hord]
      exact ⟨A', c', rfl, ho2.base_ (by omega), hb2⟩
    | cons n r =>
      have hnext := ordN_next hr
      have hmore := ordN_more Hlen.out hr
      have hs1 := ho1.strs
      rw [hr] at hs1
      obtain ⟨ad, rfl, _, hcell⟩ := hs1.at_ (k := 0) (by simp)
      have hcell' : w1.cell? ad = some (.string n) := by
        have : ad.add 0 = ad := by unfold Addr.add; simp
        rw [this] at hcell; exact hcell
      have hn := hs1.lens 0 (by simp)
      have hn' : n.size ≤ 9223372036854775807 := by simpa using hn
      go_wp2_with (at_builtin; (refine wpList_append_name _ rfl (.tmp 12) (.tmp 16) rfl (w.heap.size + 1) A' c' _ rfl (ho2.alloc _) ⟨w1.heap.size, 0, none⟩ 1 n rfl (cell_new1 _ _ _) hn' (by have := Hlen.out; omega) (by simp; omega) ?_); intro A3 c3 w3 hap)
      go_roundw
      case rel =>
        obtain ⟨hown, hlow, hgr, _⟩ := hap
        rw [← hnext] at hown
        have hol : (ordN ss (k + 1)).length = k + 1 := by rw [hnext]; simp [Hlen.out]
        have e : (ordN ss k ++ [n]).length = k + 1 := by simp [Hlen.out]
        refine ⟨k + 1, A3, c3, ?_, hol, by omega, hown, (hb2.alloc (by omega) _).trans (hlow.mono (by omega)), by have := hlow.size; simp at this; omega, ?_, ?_⟩
        · rw [hol, Hlen.out]
        · exact (hlow.cell (by show w.heap.size < _; omega)).trans ((World.cell?_alloc_lt _ _ _ (by show w.heap.size < _; omega)).trans d0)
        · exact (hlow.cell (by show w.heap.size < _; omega)).trans ((World.cell?_alloc_lt _ _ _ (by show w.heap.size < _; omega)).trans d1)
      case measure => have := Hlen.out; simp [slLen]; omega
end Go.Proofs.Ytdjgpoenlmhonaa
