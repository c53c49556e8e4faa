/- Contracts of the runs' own functions of the program: at, forth, back. Condition: names that are steps' (back). -/
import Derived.Test.YtfkjcldaclkkaaaSpecFlows
import Derived.Test.YtfkjcldaclkkaaaRunPlain
import Derived.Deep.RegionHeld3
import Derived.Outline
namespace Go.Proofs.Ytfkjcldaclkkaaa
set_option linter.unusedVariables false
set_option maxRecDepth 100000
open Go.RowKit

abbrev runV (st : Int) (D : Option Addr) (n d : Nat) : Value := .agg #[.int .i64 st, .slice D n d]
theorem cell_alR {w : World} {a : Addr} {u : Value} (h : w.cell? a = some u) (o : Obj) : (w.alloc o).cell? a = some u := (World.cell?_alloc_lt w o a (World.block_lt_of_cell? w _ h)).trans h

set_option maxHeartbeats 400000 in
theorem at1_any (nm s : ByteArray) (A : Option Addr) (n c : Nat) (u : Bool) (p : Addr) (w : World) (hp : w.cell? p = some (.string s)) :
    Calls Try.prog 89 #[.agg #[.string nm, .slice A n c, .bool u], .pointer (some p)] w fun e w' => e = .returned (.bool (decide (nm = s))) ∧ Below w.heap.size w w' := by
  have hb : ∀ o, (w.alloc o).cell? p = some (.string s) := fun o => (World.cell?_alloc_lt w o p (World.block_lt_of_cell? w _ hp)).trans hp
  go_enter Try.func89, Try.ntmps89
  go_wp2_with fail
  go_ret
  exact ⟨ret_bool (str_beq _ _), (Below.refl _ _).alloc (Nat.le_refl _) _⟩

set_option maxHeartbeats 1000000 in
theorem idxFunc_any (A : Option Addr) (c : Nat) (ss : List St) (s : ByteArray) (p : Addr) (w : World) (B : Nat) (h : Sts w B A c ss) (hp : w.cell? p = some (.string s)) :
    Calls Try.prog 88 #[.slice A ss.length c, .func (Fn.func 89) #[] #[.pointer (some p)]] w
      fun e w' => e = .returned (.int .i64 (place (names ss) s)) ∧ Below w.heap.size w w' := by
  have hl := h.len
  have hc := h.cap
  go_enter Try.func88, Try.ntmps88
  go_wp2_with fail
  go_loopw [8] (fun i wr => ∃ k : Nat, k ≤ ss.length ∧ i = .int .i64 k ∧ Below w.heap.size w wr ∧ ∀ j (hj : j < ss.length), j < k → ss[j].name ≠ s) (fun i _ => ss.length - (intOf i).toNat)
  case atStart => exact ⟨0, Nat.zero_le _, rfl, Below.refl _ _, fun j hj h => absurd h (by omega)⟩
  case round =>
    obtain ⟨k, hk, rfl, hb, hall0⟩ := hrel
    have hall := Lib.hid hall0
    clear hall0
    by_cases hlt : k < ss.length
    · obtain ⟨ad, A1, c1, rfl, _, hc0, hc1, hc2, hs⟩ := (h.then_ hb).at_ hlt
      have hp2 := (hb.cell (World.block_lt_of_cell? w _ hp)).trans hp
      by_cases he : ss[k].name = s
      · have K := Lib.hid ((at1_any ss[k].name s A1 ss[k].after.length c1 ss[k].undo p wr hp2).mono fun e w' ⟨h1, h2⟩ => (⟨h1.trans (ret_bool (decide_eq_true he)), h2⟩ : e = Ending.returned (.bool true) ∧ Below wr.heap.size wr w'))
        have He := Lib.hid he
        clear he
        go_wp2_with fail
        (with_reducible refine K.out.mono ?_)
        rintro e w1 ⟨rfl, hb1⟩
        go_wp2_with fail
        go_ret
        exact ⟨ret_int (place_at (xs := names ss) (k := k) (by rw [names_length]; exact hlt) (by rw [names_get hlt]; exact He.out) (fun j hj h => by
          have hj' : j < ss.length := by rw [names_length] at hj; exact hj
          rw [names_get hj']; exact hall.out j hj' h)).symm, bthen hb hb1⟩
      · have K := Lib.hid ((at1_any ss[k].name s A1 ss[k].after.length c1 ss[k].undo p wr hp2).mono fun e w' ⟨h1, h2⟩ => (⟨h1.trans (ret_bool (decide_eq_false he)), h2⟩ : e = Ending.returned (.bool false) ∧ Below wr.heap.size wr w'))
        have He := Lib.hid he
        clear he
        go_wp2_with fail
        (with_reducible refine K.out.mono ?_)
        rintro e w1 ⟨rfl, hb1⟩
        go_wp2_with fail
        go_roundw
        case rel => exact ⟨k + 1, by omega, by go_num, bthen hb hb1, fun j hj h => by
          by_cases e : j = k
          · subst e; exact He.out
          · exact hall.out j hj (by omega)⟩
        case measure => simp [intOf]; omega
    · go_wp2_with fail
      go_ret
      exact ⟨ret_int (place_none (xs := names ss) (fun j hj => by
        have hj' : j < ss.length := by rw [names_length] at hj; exact hj
        rw [names_get hj']; exact hall.out j hj' (by omega))).symm, hb⟩

set_option maxHeartbeats 400000 in
theorem at_any (ver : Int) (A : Option Addr) (c : Nat) (ss : List St) (s : ByteArray) (w : World) (B : Nat) (h : Sts w B A c ss) :
    Calls Try.prog 54 #[flowV ver A ss.length c, .string s] w fun e w' => e = .returned (.int .i64 (place (names ss) s)) ∧ Below w.heap.size w w' := by
  have hmf : ∀ (fn : Fn) (first cap : Array Value) (w : World), (Instr.makeFunc fn first cap).run Try.prog w = .ok (.func fn first cap) w := fun _ _ _ _ => rfl
  have hst := fun o1 o2 => (h.fit.alloc (Nat.le_refl _) o1).alloc (by simp) o2
  have hb0 : ∀ o1 o2, Below w.heap.size w ((w.alloc o1).alloc o2) := fun o1 o2 => ((Below.refl _ _).alloc (Nat.le_refl _) _).alloc (by simp) _
  go_enter Try.func54, Try.ntmps54
  go_wp2_with fail
  (with_reducible refine (idxFunc_any A c ss s ⟨w.heap.size + 1, 0, none⟩ _ _ (hst _ _) (cell_new1' _ _ _ _)).mono ?_)
  rintro e w1 ⟨rfl, hb1⟩
  go_wp2_with fail
  go_ret
  exact ⟨rfl, bthen (hb0 _ _) hb1⟩

set_option maxHeartbeats 400000 in
theorem forth_any (ver : Int) (A D : Option Addr) (c d : Nat) (ss : List St) (done : List ByteArray) (w : World) (B B' : Nat) (h : Sts w B A c ss) (hd : Strs w B' D d done) :
    Calls Try.prog 75 #[flowV ver A ss.length c, .slice D done.length d] w fun e w' => e = .returned (.int .i64 (forthSt ss done)) ∧ Below w.heap.size w w' := by
  have h1 := h.len
  have h2 := h.cap
  have h3 := hd.len
  have h4 := hd.cap
  by_cases he : done.length = ss.length
  · have hf := Lib.hid (show forthSt ss done = 2 by unfold forthSt; rw [if_pos he])
    have hq : ((done.length : Int) == ss.length) = true := by rw [he]; simp
    clear he
    go_enter Try.func75, Try.ntmps75
    go_wp2_with fail
    go_ret
    exact ⟨ret_int hf.out.symm, (Below.refl _ _).alloc (Nat.le_refl _) _⟩
  · have hf := Lib.hid (show forthSt ss done = 0 by unfold forthSt; rw [if_neg he])
    have hq : ((done.length : Int) == ss.length) = false := beq_eq_false_iff_ne.2 (by omega)
    clear he
    go_enter Try.func75, Try.ntmps75
    go_wp2_with fail
    go_ret
    exact ⟨ret_int hf.out.symm, (Below.refl _ _).alloc (Nat.le_refl _) _⟩

theorem backSt_last {ss : List St} {done : List ByteArray} (h0 : 0 < done.length) {s : St} (hs : ss[(place (names ss) (done[done.length - 1]'(by omega))).toNat]? = some s) : backSt ss done = if s.undo then 1 else 3 := by
  unfold backSt
  have hl : done.getLast? = some (done[done.length - 1]'(by omega)) := by
    rw [List.getLast?_eq_getElem?, List.getElem?_eq_getElem (by omega)]
  rw [hl]
  simp only
  unfold undoAt
  rw [hs]

set_option maxHeartbeats 2000000 in
theorem back_any (ver : Int) (A D : Option Addr) (c d : Nat) (ss : List St) (done : List ByteArray) (w : World) (B B' : Nat) (h : Sts w B A c ss) (hd : Strs w B' D d done) (hn : Hid (∀ n ∈ done, n ∈ names ss)) :
    Calls Try.prog 76 #[flowV ver A ss.length c, .slice D done.length d] w fun e w' => e = .returned (.int .i64 (backSt ss done)) ∧ Below w.heap.size w w' := by
  have h1 := h.len
  have h2 := h.cap
  have h3 := hd.len
  have h4 := hd.cap
  have hb0 : Below w.heap.size w (w.alloc (.cells #[.int .i64 ver, .slice A ss.length c] 25)) := (Below.refl _ _).alloc (Nat.le_refl _) _
  rcases Nat.eq_zero_or_pos done.length with h0 | h0
  · obtain rfl : done = [] := List.eq_nil_of_length_eq_zero h0
    have hf := Lib.hid (show backSt ss [] = 3 from rfl)
    have hdec : decide ((0 : Int) < 0) = false := by simp
    go_enter Try.func76, Try.ntmps76
    go_wp2_with fail
    go_quiet (fail)
    go_wp2_with fail
    go_ret
    exact ⟨ret_int hf.out.symm, bdrewN hb0 _⟩
  · obtain ⟨last, hlast⟩ : ∃ last, last = done[done.length - 1]'(by omega) := ⟨_, rfl⟩
    have hm : last ∈ names ss := hn.out _ (by rw [hlast]; exact List.getElem_mem _)
    obtain ⟨s, hs, _, _⟩ := place_get hm
    have hback := backSt_last h0 (by rw [← hlast]; exact hs)
    obtain ⟨k, hk⟩ : ∃ k, k = (place (names ss) last).toNat := ⟨_, rfl⟩
    have hp := place_mem hm
    have hpk : place (names ss) last = (k : Int) := by omega
    rw [← hk] at hs
    obtain ⟨hks, hsk⟩ := List.getElem?_eq_some_iff.1 hs
    have K := Lib.hid ((at_any ver A c ss last (w.alloc (.cells #[.int .i64 ver, .slice A ss.length c] 25)).drew _ ((h.fit.alloc (Nat.le_refl _) _).drew)).mono fun e w' ⟨h1, h2⟩ => (⟨h1.trans (ret_int hpk), h2⟩ : e = Ending.returned (.int .i64 (k : Int)) ∧ Below _ _ w'))
    obtain ⟨ad, A1, c1, rfl, _, hc0, hc1, hc2, _⟩ := h.at_ hks
    obtain ⟨ad', rfl, _, hcl⟩ := hd.at_ (k := done.length - 1) (by omega)
    rw [← hlast] at hcl
    rw [hsk] at hc2
    have hbox := Cell2.new w (.int .i64 ver) (.slice (some ad) ss.length c) 25
    have hcl2 := cell_alR hcl (.cells #[.int .i64 ver, .slice (some ad) ss.length c] 25)
    have hc22 := cell_alR hc2 (.cells #[.int .i64 ver, .slice (some ad) ss.length c] 25)
    have hS : ∀ w', Below (w.alloc (.cells #[.int .i64 ver, .slice (some ad) ss.length c] 25)).drew.heap.size (w.alloc (.cells #[.int .i64 ver, .slice (some ad) ss.length c] 25)).drew w' →
        w'.cell? ⟨w.heap.size, 0, none⟩ = some (.int .i64 ver) ∧ w'.cell? ⟨w.heap.size, 1, none⟩ = some (.slice (some ad) ss.length c) ∧ w'.cell? (ad'.add (done.length - 1)) = some (.string last) ∧ w'.cell? ⟨(ad.add (k * 3)).block, (ad.add (k * 3)).off + 2, none⟩ = some (.bool s.undo) := fun w' hb =>
      ⟨((hbox.then_ (Below.undrew hb)).c0), ((hbox.then_ (Below.undrew hb)).c1), ((Below.undrew hb).cell (World.block_lt_of_cell? _ _ hcl2)).trans hcl2, ((Below.undrew hb).cell (World.block_lt_of_cell? _ _ hc22)).trans hc22⟩
    have HS := Lib.hid hS
    have hi0 : (0 : Int) ≤ k := by omega
    have hi1 : (k : Int) < ss.length := by omega
    have hd0 : decide ((0 : Int) < done.length) = true := by simp; omega
    have hj0 : (0 : Int) < done.length := by omega
    have hj1 : (0 : Int) ≤ (done.length : Int) - 1 := by omega
    have hj2 : (1 : Int) ≤ done.length := by omega
    have hj3 : (done.length : Int) - 1 < done.length := by omega
    have hj4 : IntKind.i64.wrap ((done.length : Int) - 1) = (done.length : Int) - 1 := IntWalk.i64_in _ (by omega)
    have hj5 : ((done.length : Int) - 1).toNat = done.length - 1 := by omega
    have Hb := Lib.hid hback
    clear hS hbox hcl hc2 hc0 hc1 hcl2 hc22 hlast hk hpk hs hsk hback hm hp hn
    cases hu : s.undo
    · rw [hu] at HS Hb
      go_enter Try.func76, Try.ntmps76
      go_wp2_with fail
      go_region_held3 (fun w' => w'.cell? ⟨w.heap.size, 0, none⟩ = some (.int .i64 ver) ∧ w'.cell? ⟨w.heap.size, 1, none⟩ = some (.slice (some ad) ss.length c) ∧ w'.cell? (ad'.add (done.length - 1)) = some (.string last) ∧ w'.cell? ⟨(ad.add (k * 3)).block, (ad.add (k * 3)).off + 2, none⟩ = some (.bool false))
        (first | exact HS.out _ (Below.refl _ _) | exact hS9)
        ((go_at_call 54; (with_reducible refine K.out.mono ?_); rintro e w9 ⟨rfl, hb9⟩; have hS9 := HS.out _ hb9))
      have hb9' := bthen hb0 (Below.undrew hb9)
      go_wp2_with fail
      go_ret
      exact ⟨ret_int Hb.out.symm, hb9'⟩
    · rw [hu] at HS Hb
      go_enter Try.func76, Try.ntmps76
      go_wp2_with fail
      go_region_held3 (fun w' => w'.cell? ⟨w.heap.size, 0, none⟩ = some (.int .i64 ver) ∧ w'.cell? ⟨w.heap.size, 1, none⟩ = some (.slice (some ad) ss.length c) ∧ w'.cell? (ad'.add (done.length - 1)) = some (.string last) ∧ w'.cell? ⟨(ad.add (k * 3)).block, (ad.add (k * 3)).off + 2, none⟩ = some (.bool true))
        (first | exact HS.out _ (Below.refl _ _) | exact hS9)
        ((go_at_call 54; (with_reducible refine K.out.mono ?_); rintro e w9 ⟨rfl, hb9⟩; have hS9 := HS.out _ hb9))
      have hb9' := bthen hb0 (Below.undrew hb9)
      go_wp2_with fail
      go_ret
      exact ⟨ret_int Hb.out.symm, hb9'⟩
end Go.Proofs.Ytfkjcldaclkkaaa
