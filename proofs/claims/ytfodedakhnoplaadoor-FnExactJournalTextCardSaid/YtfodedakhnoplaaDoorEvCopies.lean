/- Contracts of the laws' own functions on events: szEvent, szEventS, toEvent, toEventS, eqEvent, eqEventS. Condition: sizes as the laws ask them. -/
import Derived.Test.YtfodedakhnoplaaDoorCopies
import Derived.Test.YtfodedakhnoplaaDoorEvWords
import Derived.Deep.RegionWith
namespace Go.Proofs.YtfodedakhnoplaaDoor
set_option linter.unusedVariables false
set_option maxRecDepth 100000
open Go.RowKit

/-- What the laws count of a list of events. -/
def totE : List Ev → Nat
  | [] => 0
  | x :: r => x.name.size + totE r
theorem totE_take_succ {xs : List Ev} {k : Nat} (h : k < xs.length) : totE (xs.take (k + 1)) = totE (xs.take k) + xs[k].name.size := by
  induction xs generalizing k with
  | nil => simp at h
  | cons x r ih =>
    cases k with
    | zero => simp [totE]
    | succ k =>
      simp only [List.take_succ_cons, totE, List.getElem_cons_succ]
      rw [ih (by simpa using h)]
      omega
theorem totE_take_le (xs : List Ev) (k : Nat) : totE (xs.take k) ≤ totE xs := by
  induction xs generalizing k with
  | nil => simp
  | cons x r ih =>
    cases k with
    | zero => simp [totE]
    | succ k => simp only [List.take_succ_cons, totE]; have := ih k; omega

set_option maxHeartbeats 400000 in
theorem szEvent_any (k : Int) (s : ByteArray) (l : Nat) (w : World) (hs : s.size ≤ 9223372036854775807) (hl : l ≤ 1048576) :
    Calls Tryd.prog 7 #[.agg #[.int .i64 k, .string s], .int .i64 l] w fun e w' => e = .returned (.int .i64 (left l s.size)) ∧ Below w.heap.size w w' := by
  by_cases h : l < s.size
  · have hf := Lib.hid (left_no h)
    go_enter Tryd.func7, Tryd.ntmps7
    go_wp2
    go_ret
    exact ⟨ret_int hf.out.symm, (Below.refl _ _).alloc (Nat.le_refl _) _⟩
  · have hf := Lib.hid (left_ok (l := l) (t := s.size) (by omega))
    go_enter Tryd.func7, Tryd.ntmps7
    go_wp2
    go_ret
    exact ⟨ret_int hf.out.symm, (Below.refl _ _).alloc (Nat.le_refl _) _⟩

set_option maxHeartbeats 400000 in
theorem szEventS_any (A : Option Addr) (c : Nat) (es : List Ev) (l : Nat) (w : World) (B : Nat) (h : Evs w B A c es) (hl : l ≤ 1048576) :
    Calls Tryd.prog 13 #[.slice A es.length c, .int .i64 l] w fun e w' => e = .returned (.int .i64 (left l (es.length + totE es))) ∧ Below w.heap.size w w' := by
  have h1 := h.len
  have h2 := h.cap
  by_cases h0 : l < es.length
  · go_enter Tryd.func13, Tryd.ntmps13
    go_wp2
    go_ret
    exact ⟨ret_int (left_no (by omega)).symm, Below.refl _ _⟩
  · go_enter Tryd.func13, Tryd.ntmps13
    go_wp2
    go_loopw [1, 5] (fun m i wr => ∃ (k q : Nat), k ≤ es.length ∧ i = .int .i64 k ∧ m = .int .i64 q ∧ q ≤ 1048576 ∧ q + totE (es.take k) + es.length = l ∧ Below w.heap.size w wr) (fun _ i _ => es.length - (intOf i).toNat)
    case atStart => exact ⟨0, l - es.length, Nat.zero_le _, rfl, by go_num, by omega, by simp [totE]; omega, Below.refl _ _⟩
    case round =>
      obtain ⟨k, q, hk, rfl, rfl, hq1, he0, hb⟩ := hrel
      have he := Lib.hid he0
      clear he0
      by_cases hlt : k < es.length
      · obtain ⟨ad, rfl, _, hcell, hcell1⟩ := (h.then_ hb).at_ hlt
        have hsz := h.lens k hlt
        have hts := Lib.hid (totE_take_succ hlt)
        have hle := totE_take_le es (k + 1)
        by_cases hneg : q < es[k].name.size
        · have hln := left_no hneg
          have hfin : l < es.length + totE es := by have := hts.out; have := he.out; omega
          go_wp2_with fail
          (with_reducible refine (szEvent_any _ _ _ _ hsz hq1).mono ?_)
          rintro e w1 ⟨rfl, hb1⟩
          go_wp2_with fail
          go_ret
          exact ⟨ret_int (left_no hfin).symm, bthen hb hb1⟩
        · obtain ⟨q', hq'⟩ : ∃ q' : Nat, q' = q - es[k].name.size := ⟨_, rfl⟩
          have hln : left q es[k].name.size = (q' : Int) := by rw [left_ok (by omega)]; omega
          have hq2 : q' ≤ 1048576 := by omega
          have Hq' := Lib.hid hq'
          clear hq'
          go_wp2_with fail
          (with_reducible refine (szEvent_any _ _ _ _ hsz hq1).mono ?_)
          rintro e w1 ⟨rfl, hb1⟩
          go_wp2_with fail
          go_roundw
          case rel => exact ⟨k + 1, q', by omega, by go_num, rfl, by omega, by have := hts.out; have := he.out; have := Hq'.out; omega, bthen hb hb1⟩
          case measure => simp [intOf]; omega
      · have hk' : es.take k = es := List.take_of_length_le (by omega)
        have hfin : left l (es.length + totE es) = q := by
          have := he.out
          rw [hk'] at this
          rw [left_ok (by omega)]
          omega
        have Hfin := Lib.hid hfin
        clear hfin hk'
        go_wp2_with fail
        go_ret
        exact ⟨ret_int Hfin.out.symm, hb⟩

set_option maxHeartbeats 400000 in
theorem toEvent_any (k : Int) (s : ByteArray) (w : World) :
    Calls Tryd.prog 9 #[.agg #[.int .i64 k, .string s]] w fun e w' => e = .returned (.agg #[.int .i64 k, .string s]) ∧ Below w.heap.size w w' := by
  go_enter Tryd.func9, Tryd.ntmps9
  go_wp2
  refine bodyPost_ret (v := .agg #[.int .i64 k, .string s]) (by simp [results, Tryd.results9, go_sem]) rfl ⟨rfl, ?_⟩
  exact (((Below.refl _ _).alloc (Nat.le_refl _) _).alloc (by simp) _).alloc (by simp; omega) _

theorem eventInfo : (Tryd.prog.info? 26).map (fun i => (i.zero, i.size, i.bytes)) = some (some (.agg #[.int .i64 0, .string ⟨#[]⟩]), 2, 24) := by kernel_rfl

set_option maxHeartbeats 400000 in
theorem toEventS_any (A : Option Addr) (c : Nat) (es : List Ev) (w : World) (B : Nat) (h : Evs w B A c es) (hl : es.length ≤ 1048576) :
    Calls Tryd.prog 15 #[.slice A es.length c] w (RetEvs es w) := by
  have h1 := h.len
  have h2 := h.cap
  obtain ⟨i0, hi, hz0, hz1, hz2⟩ := info_parts eventInfo
  have hmk : ∀ w : World, (Instr.makeSlice 39 (.int .i64 es.length) (.int .i64 es.length)).run Tryd.prog w = .ok (.slice (some ⟨w.heap.size, 0, none⟩) es.length es.length) (w.alloc (.cells (madeCells (Value.agg #[.int .i64 0, .string ⟨#[]⟩]).cells (es.length * 2)) 26)) := by
    intro w
    have := run_make (P := Tryd.prog) w 39 26 i0 _ Tryd.underlying39 hi hz0 .i64 .i64 es.length es.length (by omega) (by omega) (by rw [hz2]; omega) (by omega)
    simpa [hz1] using this
  clear hi hz0 hz1 hz2
  have hown : ∃ vs, (w.alloc (.cells (madeCells (Value.agg #[.int .i64 0, .string ⟨#[]⟩]).cells (es.length * 2)) 26)).ownsRow w.heap.size 26 2 (.slice (some ⟨w.heap.size, 0, none⟩) es.length es.length) es.length vs :=
    ⟨_, World.ownsRow_lit w _ _ (Nat.le_refl _) (by simp only [maxLen]; omega) (by simp [madeCells])⟩
  have Hown := Lib.hid hown
  clear hown
  go_enter Tryd.func15, Tryd.ntmps15
  go_wp2
  clear hmk
  go_loopw [4] (fun i wr => ∃ (k : Nat) (vs : List Value), k ≤ es.length ∧ i = .int .i64 k ∧ Below w.heap.size w wr ∧ wr.ownsRow w.heap.size 26 2 (.slice (some ⟨w.heap.size, 0, none⟩) es.length es.length) es.length vs ∧ vs.take (k * 2) = (es.take k).flatMap evCells) (fun i _ => es.length - (intOf i).toNat)
  case atStart =>
    obtain ⟨vs, hv⟩ := Hown.out
    exact ⟨0, vs, Nat.zero_le _, rfl, (Below.refl _ _).alloc (Nat.le_refl _) _, hv, by simp⟩
  case round =>
    obtain ⟨k, vs, hk, rfl, hb, hown, hdone0⟩ := hrel
    have hdone := Lib.hid hdone0
    clear hdone0
    by_cases hlt : k < es.length
    · obtain ⟨ad, rfl, _, hcell, hcell1⟩ := (h.then_ hb).at_ hlt
      have hvl := hown.1
      have hvl' : k * 2 + 2 ≤ vs.length := by omega
      have Hvl := Lib.hid hvl
      clear hvl
      go_wp2_with fail
      (with_reducible refine (toEvent_any _ _ _).mono ?_)
      rintro e w1 ⟨rfl, hb1⟩
      have hown1 := own_below hown hb1
      obtain ⟨x0, hx0⟩ : ∃ x, vs[k * 2]? = some x := ⟨_, List.getElem?_eq_getElem (by omega)⟩
      obtain ⟨x1, hx1⟩ : ∃ x, vs[k * 2 + 1]? = some x := ⟨_, List.getElem?_eq_getElem (by omega)⟩
      have hc0 : w1.cell? ⟨w.heap.size, k * 2, none⟩ = some x0 := by rw [hown1.cellAt _ (by omega)]; exact hx0
      have hc1 : w1.cell? ⟨w.heap.size, k * 2 + 1, none⟩ = some x1 := by rw [hown1.cellAt _ (by omega)]; exact hx1
      have hf0 := hown1.frozenAt (k * 2)
      have hf1 := hown1.frozenAt (k * 2 + 1)
      have hown2 := (hown1.stored (k * 2) (.int .i64 es[k].kind)).1
      have hown3 := (hown2.stored (k * 2 + 1) (.string es[k].name)).1
      clear hown2 hx0 hx1
      go_wp2_with fail
      go_roundw
      case rel => exact ⟨k + 1, _, by omega, by go_num, ((bthen hb hb1).setCell (Nat.le_refl _) _).setCell (Nat.le_refl _) _, hown3, by
        rw [show (k + 1) * 2 = k * 2 + 2 from by omega, set2_take hdone.out hvl', List.take_succ_eq_append_getElem hlt, List.flatMap_append]; simp [evCells]⟩
      case measure => simp [intOf]; omega
    · obtain rfl : k = es.length := by omega
      go_wp2_with fail
      go_ret
      have hvs : vs = es.flatMap evCells := by
        have := hdone.out
        rwa [List.take_of_length_le (by rw [hown.1]; omega), List.take_of_length_le (Nat.le_refl _)] at this
      subst hvs
      exact ⟨_, _, rfl, ⟨hown, fun x hx => by obtain ⟨j, hj, rfl⟩ := List.getElem_of_mem hx; exact h.lens j hj⟩, hb⟩

def evEq (a b : Ev) : Bool := decide (a.kind = b.kind) && decide (a.name = b.name)
theorem evEq_iff (a b : Ev) : evEq a b = true ↔ a = b := by
  cases a; cases b; simp [evEq]

set_option maxHeartbeats 400000 in
theorem eqEvent_any (k k' : Int) (s s' : ByteArray) (w : World) :
    Calls Tryd.prog 35 #[.agg #[.int .i64 k, .string s], .agg #[.int .i64 k', .string s']] w fun e w' => e = .returned (.bool (evEq ⟨k, s⟩ ⟨k', s'⟩)) ∧ Below w.heap.size w w' := by
  by_cases h1 : k = k'
  · subst h1
    by_cases h2 : s = s'
    · subst h2
      go_enter Tryd.func35, Tryd.ntmps35
      go_wp2
      go_ret
      exact ⟨ret_bool (by simp [evEq]), ((Below.refl _ _).alloc (Nat.le_refl _) _).alloc (by simp) _⟩
    · have hx0 : (s.toList == s'.toList) = false := by rw [str_beq]; exact decide_eq_false h2
      have hx1 : (s.toList != s'.toList) = true := by simp only [bne, hx0]; rfl
      go_enter Tryd.func35, Tryd.ntmps35
      go_wp2
      go_ret
      exact ⟨ret_bool (by simp [evEq, h2]), ((Below.refl _ _).alloc (Nat.le_refl _) _).alloc (by simp) _⟩
  · have hx1 : (k != k') = true := by simpa using h1
    go_enter Tryd.func35, Tryd.ntmps35
    go_wp2
    go_ret
    exact ⟨ret_bool (by simp [evEq, h1]), ((Below.refl _ _).alloc (Nat.le_refl _) _).alloc (by simp) _⟩

set_option maxHeartbeats 400000 in
theorem eqEventS_any (A A' : Option Addr) (c c' : Nat) (xs ys : List Ev) (w : World) (B B' : Nat) (h : Evs w B A c xs) (h' : Evs w B' A' c' ys) (R : Bool) (hR : Hid (R = true ↔ xs = ys)) :
    Calls Tryd.prog 17 #[.slice A xs.length c, .slice A' ys.length c'] w fun e w' => e = .returned (.bool R) ∧ Below w.heap.size w w' := by
  have h1 := h.len
  have h2 := h.cap
  have h3 := h'.len
  have h4 := h'.cap
  by_cases hn : xs.length = ys.length
  · have hn' : ((xs.length : Int) != ys.length) = false := by simp [hn]
    have Hn := Lib.hid hn
    clear hn
    go_enter Tryd.func17, Tryd.ntmps17
    go_wp2
    go_loopw [5] (fun i wr => ∃ k : Nat, k ≤ xs.length ∧ i = .int .i64 k ∧ Below w.heap.size w wr ∧ xs.take k = ys.take k) (fun i _ => xs.length - (intOf i).toNat)
    case atStart => exact ⟨0, Nat.zero_le _, rfl, Below.refl _ _, by simp⟩
    case round =>
      obtain ⟨k, hk, rfl, hb, he0⟩ := hrel
      have he := Lib.hid he0
      clear he0
      by_cases hlt : k < xs.length
      · have hlt' : k < ys.length := by have := Hn.out; omega
        have hi0 : (0 : Int) ≤ k := by omega
        have hi1 : (k : Int) < xs.length := by omega
        have hi2 : (k : Int) < ys.length := by omega
        obtain ⟨ad, rfl, _, hcell, hcell1⟩ := (h.then_ hb).at_ hlt
        obtain ⟨ad', rfl, _, hcell', hcell1'⟩ := (h'.then_ hb).at_ hlt'
        go_wp2
        go_region_with (first
          | (go_at_call 35; (with_reducible refine (eqEvent_any _ _ _ _ _).mono ?_); rintro e w1 ⟨rfl, hb1⟩))
        all_goals
          have hbw : Below w.heap.size w w1 := bthen hb.drew hb1
          cases hq : evEq ⟨xs[k].kind, xs[k].name⟩ ⟨ys[k].kind, ys[k].name⟩
        all_goals
          go_wp2_with fail
        all_goals first
          | (go_ret
             refine ⟨ret_bool ?_, hbw⟩
             cases R
             · rfl
             · have e := hR.out.1 rfl
               subst e
               have := (evEq_iff xs[k] xs[k]).2 rfl
               have hq' : evEq xs[k] xs[k] = false := hq
               rw [this] at hq'
               cases hq')
          | (go_roundw
             case rel => exact ⟨k + 1, by omega, by go_num, hbw, by
               rw [List.take_succ_eq_append_getElem hlt, List.take_succ_eq_append_getElem hlt', he.out, (evEq_iff xs[k] ys[k]).1 hq]⟩
             case measure => simp [intOf]; omega)
      · go_wp2
        go_ret
        exact ⟨ret_bool (by
          symm; apply hR.out.2
          have h1 : xs.take k = xs := List.take_of_length_le (by omega)
          have h2 : ys.take k = ys := List.take_of_length_le (by have := Hn.out; omega)
          rw [← h1, ← h2]; exact he.out), hb⟩
  · have hn' : ((xs.length : Int) != ys.length) = true := by
      rw [bne_iff_ne]; omega
    have Hn := Lib.hid hn
    clear hn
    go_enter Tryd.func17, Tryd.ntmps17
    go_wp2
    go_ret
    exact ⟨ret_bool (by cases R; rfl; exact absurd (congrArg List.length (hR.out.1 rfl)) Hn.out), Below.refl _ _⟩
end Go.Proofs.YtfodedakhnoplaaDoor
