/- Contracts of the runs' own functions of the program: at, forth, back. Condition: names that are steps' (back). -/
import Derived.Test.YtdjgpoenlmhonaaSpecFlows
import Derived.Test.YtdjgpoenlmhonaaRunPlain
import Derived.Deep.RegionHeld3
import Derived.Outline
namespace Go.Proofs.Ytdjgpoenlmhonaa
set_option linter.unusedVariables false
set_option maxRecDepth 100000
open Go.RowKit

abbrev runV (st : Int) (D : Option Addr) (n d : Nat) : Value := .agg #[.int .i64 st, .slice D n d]
theorem cell_alR {w : World} {a : Addr} {u : Value} (h : w.cell? a = some u) (o : Obj) : (w.alloc o).cell? a = some u := (World.cell?_alloc_lt w o a (World.block_lt_of_cell? w _ h)).trans h

set_option maxHeartbeats 400000 in
theorem at1_any (nm s : ByteArray) (A : Option Addr) (n c : Nat) (u : Bool) (p : Addr) (w : World) (hp : w.cell? p = some (.string s)) :
    Calls Try.prog 25 #[.agg #[.string nm, .slice A n c, .bool u], .pointer (some p)] w fun e w' => e = .returned (.bool (decide (nm = s))) ∧ Below w.heap.size w w' := by
  have hb : ∀ o, (w.alloc o).cell? p = some (.string s) := fun o => (World.cell?_alloc_lt w o p (World.block_lt_of_cell? w _ hp)).trans hp
  go_enter Try.func25, Try.ntmps25
  go_wp2_with fail
  go_ret
  exact ⟨ret_bool (str_beq _ _), (Below.refl _ _).alloc (Nat.le_refl _) _⟩

set_option maxHeartbeats 1000000 in
theorem idxFunc_any (A : Option Addr) (c : Nat) (ss : List St) (s : ByteArray) (p : Addr) (w : World) (B : Nat) (h : Sts w B A c ss) (hp : w.cell? p = some (.string s)) :
    Calls Try.prog 24 #[.slice A ss.length c, .func (Fn.func 25) #[] #[.pointer (some p)]] w
      fun e w' => e = .returned (.int .i64 (place (names ss) s)) ∧ Below w.heap.size w w' := by
  have hl := h.len
  have hc := h.cap
  go_enter Try.func24, Try.ntmps24
  go_wp2_with fail
  go_loopw [8] (fun i wr => ∃ k : Nat, k ≤ ss.length ∧ i = .int .i64 k ∧ Below w.heap.size w wr ∧ ∀ j (hj : j < ss.length), j < k → ss[j].name ≠ s) (fun i _ => ss.length - (intOf i).toNat)
  case atStart => exact ⟨0, Nat.zero_le _, rfl, Below.refl _ _, fun j hj h => absurd h (by omega)⟩
  case round =>
    obtain ⟨k, hk, rfl, hb, hall0⟩ := hrel
    have hall := Lib.hid hall0
    clear hall0
    by_cases hlt : k < ss.length
    · obtain ⟨ad, A1, c1, rfl, _, hc0, hc1, hc2, hs⟩ := (h.then_ hb).at_ hlt
      have hp2 := (hb.cell (World.block_lt_of_cell? w _ hp)).trans hp
      by_cases he : ss[k].name = s
      · have K := Lib.hid ((at1_any ss[k].name s A1 ss[k].after.length c1 ss[k].undo p wr hp2).mono fun e w' ⟨h1, h2⟩ => (⟨h1.trans (ret_bool (decide_eq_true he)), h2⟩ : e = Ending.returned (.bool true) ∧ Below wr.heap.size wr w'))
        have He := Lib.hid he
        clear he
        go_wp2_with fail
        (with_reducible refine K.out.mono ?_)
        rintro e w1 ⟨rfl, hb1⟩
        go_wp2_with fail
        go_ret
        exact ⟨ret_int (place_at (xs := names ss) (k := k) (by rw [names_length]; exact hlt) (by rw [names_get hlt]; exact He.out) (fun j hj h => by
          have hj' : j < ss.length := by rw [names_length] at hj; exact hj
          rw [names_get hj']; exact hall.out j hj' h)).symm, bthen hb hb1⟩
      · have K := Lib.hid ((at1_any ss[k].name s A1 ss[k].after.length c1 ss[k].undo p wr hp2).mono fun e w' ⟨h1, h2⟩ => (⟨h1.trans (ret_bool (decide_eq_false he)), h2⟩ : e = Ending.returned (.bool false) ∧ Below wr.heap.size wr w'))
        have He := Lib.hid he
        clear he
        go_wp2_with fail
        (with_reducible refine K.out.mono ?_)
        rintro e w1 ⟨rfl, hb1⟩
        go_wp2_with fail
        go_roundw
        case rel => exact ⟨k + 1, by omega, by go_num, bthen hb hb1, fun j hj h => by
          by_cases e : j = k
          · subst e; exact He.out
          · exact hall.out j hj (by omega)⟩
        case measure => simp [intOf]; omega
    · go_wp2_with fail
      go_ret
      exact ⟨ret_int (place_none (xs := names ss) (fun j hj => by
        have hj' : j < ss.length := by rw [names_length] at hj; exact hj
        rw [names_get hj']; exact hall.out j hj' (by omega))).symm, hb⟩

set_option maxHeartbeats 400000 in
theorem at_any (ver : Int) (A : Option Addr) (c : Nat) (ss : List St) (s : ByteArray) (w : World) (B : Nat) (h : Sts w B A c ss) :
    Calls Try.prog 13 #[flowV ver A ss.length c, .string s] w fun e w' => e = .returned (.int .i64 (place (names ss) s)) ∧ Below w.heap.size w w' := by
  have hmf : ∀ (fn : Fn) (first cap : Array Value) (w : World), (Instr.makeFunc fn first cap).run Try.prog w = .ok (.func fn first cap) w := fun _ _ _ _ => rfl
  have hst := fun o1 o2 => (h.fit.alloc (Nat.le_refl _) o1).alloc (by simp) o2
  have hb0 : ∀ o1 o2, Below w.heap.size w ((w.alloc o1).alloc o2) := fun o1 o2 => ((Below.refl _ _).alloc (Nat.le_refl _) _).alloc (by simp) _
  go_enter Try.func13, Try.ntmps13
  go_wp2_with fail
  (with_reducible refine (idxFunc_any A c ss s ⟨w.heap.size + 1, 0, none⟩ _ _ (hst _ _) (cell_new1' _ _ _ _)).mono ?_)
  rintro e w1 ⟨rfl, hb1⟩
  go_wp2_with fail
  go_ret
  exact ⟨rfl, bthen (hb0 _ _) hb1⟩

theorem backSt_last {ss : List St} {done : List ByteArray} (h0 : 0 < done.length) {s : St} (hs : ss[(place (names ss) (done[done.length - 1]'(by omega))).toNat]? = some s) : backSt ss done = if s.undo then 1 else 3 := by
  unfold backSt
  have hl : done.getLast? = some (done[done.length - 1]'(by omega)) := by
    rw [List.getLast?_eq_getElem?, List.getElem?_eq_getElem (by omega)]
  rw [hl]
  simp only
  unfold undoAt
  rw [hs]

end Go.Proofs.Ytdjgpoenlmhonaa
