/- Contracts of the laws' own functions on flows: szStepS, szFlow, toStepS, toFlow, eqStepS, eqFlow. Condition: sizes as the laws ask them. -/
import Derived.Test.YtfkjcldaclkkaaaStepCopies
import Derived.Test.YtfkjcldaclkkaaaFlowWords
import Derived.Deep.RegionWith
namespace Go.Proofs.Ytfkjcldaclkkaaa
set_option linter.unusedVariables false
set_option maxRecDepth 100000
open Go.RowKit Go.Deep

/-- What the laws count of a list of steps. -/
def totSt : List St → Nat
  | [] => 0
  | x :: r => x.name.size + tot x.after + totSt r
theorem totSt_take_succ {xs : List St} {k : Nat} (h : k < xs.length) : totSt (xs.take (k + 1)) = totSt (xs.take k) + (xs[k].name.size + tot xs[k].after) := by
  induction xs generalizing k with
  | nil => simp at h
  | cons x r ih =>
    cases k with
    | zero => simp [totSt]
    | succ k =>
      simp only [List.take_succ_cons, totSt, List.getElem_cons_succ]
      rw [ih (by simpa using h)]
      omega
theorem totSt_take_le (xs : List St) (k : Nat) : totSt (xs.take k) ≤ totSt xs := by
  induction xs generalizing k with
  | nil => simp
  | cons x r ih =>
    cases k with
    | zero => simp [totSt]
    | succ k => simp only [List.take_succ_cons, totSt]; have := ih k; omega
theorem totSt_mem {xs : List St} {x : St} (h : x ∈ xs) : x.name.size + tot x.after ≤ totSt xs := by
  induction xs with
  | nil => cases h
  | cons y r ih =>
    simp only [totSt]
    rcases List.mem_cons.1 h with rfl | h
    · omega
    · have := ih h; omega

theorem flow_afters {ss : List St} (h : ss.length + totSt ss ≤ 1048576) : ∀ s ∈ ss, s.after.length ≤ 1048576 := by
  intro s hs
  have h1 := totSt_mem hs
  have h2 := tot_len s.after
  omega

set_option maxHeartbeats 400000 in
theorem szStepS_any (A : Option Addr) (c : Nat) (ss : List St) (l : Nat) (w : World) (B : Nat) (h : Sts w B A c ss) (hl : l ≤ 1048576) :
    Calls Try.prog 68 #[.slice A ss.length c, .int .i64 l] w fun e w' => e = .returned (.int .i64 (left l (ss.length + totSt ss))) ∧ Below w.heap.size w w' := by
  have h1 := h.len
  have h2 := h.cap
  by_cases h0 : l < ss.length
  · go_enter Try.func68, Try.ntmps68
    go_wp2
    go_ret
    exact ⟨ret_int (left_no (by omega)).symm, Below.refl _ _⟩
  · go_enter Try.func68, Try.ntmps68
    go_wp2
    go_loopw [1, 5] (fun m i wr => ∃ (k q : Nat), k ≤ ss.length ∧ i = .int .i64 k ∧ m = .int .i64 q ∧ q ≤ 1048576 ∧ q + totSt (ss.take k) + ss.length = l ∧ Below w.heap.size w wr) (fun _ i _ => ss.length - (intOf i).toNat)
    case atStart => exact ⟨0, l - ss.length, Nat.zero_le _, rfl, by go_num, by omega, by simp [totSt]; omega, Below.refl _ _⟩
    case round =>
      obtain ⟨k, q, hk, rfl, rfl, hq1, he0, hb⟩ := hrel
      have he := Lib.hid he0
      clear he0
      by_cases hlt : k < ss.length
      · obtain ⟨ad, A1, c1, rfl, _, hc0, hc1, hc2, hs⟩ := (h.then_ hb).at_ hlt
        have hsz := h.lens k hlt
        have hts := Lib.hid (totSt_take_succ hlt)
        have hle := totSt_take_le ss (k + 1)
        by_cases hneg : q < ss[k].name.size + tot ss[k].after
        · have hln := left_no hneg
          have hfin : l < ss.length + totSt ss := by have := hts.out; have := he.out; omega
          go_wp2_with fail
          (with_reducible refine (szStep_any _ _ _ _ _ _ _ _ hs hsz hq1).mono ?_)
          rintro e w1 ⟨rfl, hb1⟩
          go_wp2_with fail
          go_ret
          exact ⟨ret_int (left_no hfin).symm, bthen hb hb1⟩
        · obtain ⟨q', hq'⟩ : ∃ q' : Nat, q' = q - (ss[k].name.size + tot ss[k].after) := ⟨_, rfl⟩
          have hln : left q (ss[k].name.size + tot ss[k].after) = (q' : Int) := by rw [left_ok (by omega)]; omega
          have hq2 : q' ≤ 1048576 := by omega
          have Hq' := Lib.hid hq'
          clear hq'
          go_wp2_with fail
          (with_reducible refine (szStep_any _ _ _ _ _ _ _ _ hs hsz hq1).mono ?_)
          rintro e w1 ⟨rfl, hb1⟩
          go_wp2_with fail
          go_roundw
          case rel => exact ⟨k + 1, q', by omega, by go_num, rfl, by omega, by have := hts.out; have := he.out; have := Hq'.out; omega, bthen hb hb1⟩
          case measure => simp [intOf]; omega
      · have hk' : ss.take k = ss := List.take_of_length_le (by omega)
        have hfin : left l (ss.length + totSt ss) = q := by
          have := he.out
          rw [hk'] at this
          rw [left_ok (by omega)]
          omega
        have Hfin := Lib.hid hfin
        clear hfin hk'
        go_wp2_with fail
        go_ret
        exact ⟨ret_int Hfin.out.symm, hb⟩

set_option maxHeartbeats 400000 in
theorem szFlow_any (ver : Int) (A : Option Addr) (c : Nat) (ss : List St) (l : Nat) (w : World) (B : Nat) (h : Sts w B A c ss) (hl : l ≤ 1048576) :
    Calls Try.prog 27 #[.agg #[.int .i64 ver, .slice A ss.length c], .int .i64 l] w fun e w' => e = .returned (.int .i64 (left l (ss.length + totSt ss))) ∧ Below w.heap.size w w' := by
  have hst := fun o => h.fit.alloc (Nat.le_refl _) o
  have hb0 : ∀ o, Below w.heap.size w (w.alloc o) := fun o => (Below.refl _ _).alloc (Nat.le_refl _) _
  by_cases h2 : ss.length + totSt ss ≤ l
  · have h4 : 0 ≤ left l (ss.length + totSt ss) := by rw [left_ok h2]; omega
    go_enter Try.func27, Try.ntmps27
    go_wp2_with fail
    refine (szStepS_any A c ss l _ _ (hst _) hl).mono ?_
    rintro e w1 ⟨rfl, hb1⟩
    go_wp2_with fail
    go_ret
    exact ⟨rfl, bthen (hb0 _) hb1⟩
  · have h4 := left_no (l := l) (t := ss.length + totSt ss) (by omega)
    go_enter Try.func27, Try.ntmps27
    go_wp2_with fail
    refine (szStepS_any A c ss l _ _ (hst _) hl).mono ?_
    rintro e w1 ⟨rfl, hb1⟩
    rw [h4]
    go_wp2_with fail
    go_ret
    exact ⟨ret_int h4.symm, bthen (hb0 _) hb1⟩

/-- No two steps' lists of names lie in one block. -/
def DisS (vs : List Value) (k : Nat) : Prop :=
  ∀ i j p q n m c d, i < j → j < k → vs[i * 3 + 1]? = some (.slice (some p) n c) → vs[j * 3 + 1]? = some (.slice (some q) m d) → Addr.block p ≠ Addr.block q

theorem OwnStrs.block_ {w : World} {base : Nat} {p : Addr} {c : Nat} {xs : List ByteArray} (h : OwnStrs w base (some p) c xs) : base ≤ p.block ∧ p.block < w.heap.size := h.1.lt p.block rfl

/-- Steps in memory of the call's own: one block, and the names that each comes after behind it. -/
structure OwnSts (w : World) (base : Nat) (A : Option Addr) (c : Nat) (ss : List St) : Prop where
  row : ∃ b vs, A = some ⟨b, 0, none⟩ ∧ base ≤ b ∧ w.ownsRow base 30 3 (.slice A ss.length c) ss.length vs ∧
    (∀ j (h : j < ss.length), vs[j * 3]? = some (.string ss[j].name) ∧ (∃ A' c', vs[j * 3 + 1]? = some (.slice A' ss[j].after.length c') ∧ OwnStrs w (b + 1) A' c' ss[j].after) ∧ vs[j * 3 + 2]? = some (.bool ss[j].undo)) ∧ DisS vs ss.length
  lens : ∀ j (h : j < ss.length), ss[j].name.size ≤ 9223372036854775807

theorem OwnSts.below {w w' : World} {base : Nat} {A : Option Addr} {c : Nat} {ss : List St} (h : OwnSts w base A c ss) (hb : Below w.heap.size w w') : OwnSts w' base A c ss := by
  obtain ⟨⟨b, vs, e, hbase, hr, hj, hd⟩, hl⟩ := h
  refine ⟨⟨b, vs, e, hbase, own_below hr hb, fun j h => ?_, hd⟩, hl⟩
  obtain ⟨h0, ⟨A', c', h1, h2⟩, h3⟩ := hj j h
  exact ⟨h0, ⟨A', c', h1, h2.below hb⟩, h3⟩
theorem OwnSts.base_ {w : World} {base base' : Nat} {A : Option Addr} {c : Nat} {ss : List St} (h : OwnSts w base A c ss) (hb : base' ≤ base) : OwnSts w base' A c ss := by
  obtain ⟨⟨b, vs, e, hbase, hr, hj, hd⟩, hl⟩ := h
  exact ⟨⟨b, vs, e, by omega, own_base hr hb, hj, hd⟩, hl⟩
theorem OwnSts.sts {w : World} {base : Nat} {A : Option Addr} {c : Nat} {ss : List St} (h : OwnSts w base A c ss) : Sts w w.heap.size A c ss := by
  obtain ⟨⟨b, vs, rfl, hbase, hr, hj, _⟩, hl⟩ := h
  obtain ⟨hvl, hr2⟩ := id hr
  rcases hr2 with ⟨hv, hn⟩ | ⟨g, cap, cur, hv, hg, hh, hnc, hcm, _⟩
  · cases hv
  · injection hv with h1 h2 h3
    injection h1 with h1
    injection h1 with h1 _ _
    subst h1 h3
    refine ⟨hnc, by simpa [maxLen] using hcm, hl, fun hn => ⟨_, rfl, (Array.getElem?_eq_some_iff.1 hh).1, fun j h => ?_⟩⟩
    have hadd : (⟨b, 0, none⟩ : Addr).add (j * 3) = ⟨b, j * 3, none⟩ := by unfold Addr.add; split <;> simp_all
    obtain ⟨h0, ⟨A', c', h1, h2⟩, h3⟩ := hj j h
    rw [hadd]
    refine ⟨A', c', ?_, ?_, ?_, h2.strs⟩
    · rw [hr.cellAt _ (by omega)]; exact h0
    · rw [hr.cellAt _ (by show j * 3 + 1 < _; omega)]; exact h1
    · rw [hr.cellAt _ (by show j * 3 + 2 < _; omega)]; exact h3

/-- Steps are handed back, in memory of the call's own. -/
def RetSts (ss : List St) (w : World) (e : Ending) (w' : World) : Prop :=
  ∃ A c, e = .returned (.slice A ss.length c) ∧ OwnSts w' w.heap.size A c ss ∧ Below w.heap.size w w'

theorem stepInfo : (Try.prog.info? 30).map (fun i => (i.zero, i.size, i.bytes)) = some (some (.agg #[.string ⟨#[]⟩, .slice none 0 0, .bool false]), 3, 48) := by kernel_rfl

theorem set3_at {vs : List Value} {k j : Nat} {x y z : Value} (hk : k * 3 + 3 ≤ vs.length) (hne : j ≠ k) (i : Nat) (hi : i < 3) :
    (((vs.set (k * 3) x).set (k * 3 + 1) y).set (k * 3 + 2) z)[j * 3 + i]? = vs[j * 3 + i]? := by
  rw [List.getElem?_set_ne (by omega), List.getElem?_set_ne (by omega), List.getElem?_set_ne (by omega)]
theorem set3_new {vs : List Value} {k : Nat} {x y z : Value} (hk : k * 3 + 3 ≤ vs.length) :
    (((vs.set (k * 3) x).set (k * 3 + 1) y).set (k * 3 + 2) z)[k * 3]? = some x ∧ (((vs.set (k * 3) x).set (k * 3 + 1) y).set (k * 3 + 2) z)[k * 3 + 1]? = some y ∧ (((vs.set (k * 3) x).set (k * 3 + 1) y).set (k * 3 + 2) z)[k * 3 + 2]? = some z := by
  refine ⟨?_, ?_, ?_⟩
  · rw [List.getElem?_set_ne (by omega), List.getElem?_set_ne (by omega), List.getElem?_set_self (by omega)]
  · rw [List.getElem?_set_ne (by omega), List.getElem?_set_self (by simp; omega)]
  · rw [List.getElem?_set_self (by simp; omega)]

set_option maxHeartbeats 1000000 in
theorem toStepS_any (A : Option Addr) (c : Nat) (ss : List St) (w : World) (B : Nat) (h : Sts w B A c ss) (hl : ss.length ≤ 1048576) (hal : ∀ s ∈ ss, s.after.length ≤ 1048576) :
    Calls Try.prog 69 #[.slice A ss.length c] w (RetSts ss w) := by
  have h1 := h.len
  have h2 := h.cap
  obtain ⟨i0, hi, hz0, hz1, hz2⟩ := info_parts stepInfo
  have hmk : ∀ w : World, (Instr.makeSlice 23 (.int .i64 ss.length) (.int .i64 ss.length)).run Try.prog w = .ok (.slice (some ⟨w.heap.size, 0, none⟩) ss.length ss.length) (w.alloc (.cells (madeCells (Value.agg #[.string ⟨#[]⟩, .slice none 0 0, .bool false]).cells (ss.length * 3)) 30)) := by
    intro w
    have := run_make (P := Try.prog) w 23 30 i0 _ Try.underlying23 hi hz0 .i64 .i64 ss.length ss.length (by omega) (by omega) (by rw [hz2]; omega) (by omega)
    simpa [hz1] using this
  clear hi hz0 hz1 hz2
  have hown : ∃ vs, (w.alloc (.cells (madeCells (Value.agg #[.string ⟨#[]⟩, .slice none 0 0, .bool false]).cells (ss.length * 3)) 30)).ownsRow w.heap.size 30 3 (.slice (some ⟨w.heap.size, 0, none⟩) ss.length ss.length) ss.length vs :=
    ⟨_, World.ownsRow_lit w _ _ (Nat.le_refl _) (by simp only [maxLen]; omega) (by simp [madeCells])⟩
  have Hown := Lib.hid hown
  clear hown
  go_enter Try.func69, Try.ntmps69
  go_wp2
  clear hmk
  go_loopw [4] (fun i wr => ∃ (k : Nat) (vs : List Value), k ≤ ss.length ∧ i = .int .i64 k ∧ Below w.heap.size w wr ∧ wr.ownsRow w.heap.size 30 3 (.slice (some ⟨w.heap.size, 0, none⟩) ss.length ss.length) ss.length vs ∧
    (∀ j (h : j < ss.length), j < k → vs[j * 3]? = some (.string ss[j].name) ∧ (∃ A' c', vs[j * 3 + 1]? = some (.slice A' ss[j].after.length c') ∧ OwnStrs wr (w.heap.size + 1) A' c' ss[j].after) ∧ vs[j * 3 + 2]? = some (.bool ss[j].undo)) ∧ DisS vs k) (fun i _ => ss.length - (intOf i).toNat)
  case atStart =>
    obtain ⟨vs, hv⟩ := Hown.out
    exact ⟨0, vs, Nat.zero_le _, rfl, (Below.refl _ _).alloc (Nat.le_refl _) _, hv, fun j hj h => absurd h (by omega), fun i j p q n m c d _ h => absurd h (by omega)⟩
  case round =>
    obtain ⟨k, vs, hk, rfl, hb, hown, hdone0, hdis0⟩ := hrel
    have hdone := Lib.hid hdone0
    have hdis := Lib.hid hdis0
    clear hdone0 hdis0
    by_cases hlt : k < ss.length
    · obtain ⟨ad, A1, c1, rfl, _, hc0, hc1, hc2, hs⟩ := (h.then_ hb).at_ hlt
      have hvl := hown.1
      have hvl' : k * 3 + 3 ≤ vs.length := by omega
      have Hvl := Lib.hid hvl
      clear hvl
      have ha1 := hal _ (List.getElem_mem hlt)
      have hbl : w.heap.size + 1 ≤ wr.heap.size := by
        have := hown.lt w.heap.size rfl
        omega
      go_wp2_with fail
      (with_reducible refine (toStep_any _ _ _ _ _ _ _ hs ha1).mono ?_)
      rintro e w1 ⟨A2, c2, rfl, ho2, hb1⟩
      have hown1 := own_below hown hb1
      obtain ⟨x0, hx0⟩ : ∃ x, vs[k * 3]? = some x := ⟨_, List.getElem?_eq_getElem (by omega)⟩
      obtain ⟨x1, hx1⟩ : ∃ x, vs[k * 3 + 1]? = some x := ⟨_, List.getElem?_eq_getElem (by omega)⟩
      obtain ⟨x2, hx2⟩ : ∃ x, vs[k * 3 + 2]? = some x := ⟨_, List.getElem?_eq_getElem (by omega)⟩
      have hc0 : w1.cell? ⟨w.heap.size, k * 3, none⟩ = some x0 := by rw [hown1.cellAt _ (by omega)]; exact hx0
      have hc1 : w1.cell? ⟨w.heap.size, k * 3 + 1, none⟩ = some x1 := by rw [hown1.cellAt _ (by omega)]; exact hx1
      have hc2 : w1.cell? ⟨w.heap.size, k * 3 + 2, none⟩ = some x2 := by rw [hown1.cellAt _ (by omega)]; exact hx2
      have hf0 := hown1.frozenAt (k * 3)
      have hf1 := hown1.frozenAt (k * 3 + 1)
      have hf2 := hown1.frozenAt (k * 3 + 2)
      have hown2 := (hown1.stored (k * 3) (.string ss[k].name)).1
      have hown3 := (hown2.stored (k * 3 + 1) (.slice A2 ss[k].after.length c2)).1
      have hown4 := (hown3.stored (k * 3 + 2) (.bool ss[k].undo)).1
      clear hown2 hown3 hx0 hx1 hx2
      go_wp2_with fail
      go_roundw
      case rel =>
        refine ⟨k + 1, _, by omega, by go_num, (((bthen hb hb1).setCell (Nat.le_refl _) _).setCell (Nat.le_refl _) _).setCell (Nat.le_refl _) _, hown4, fun j hj h => ?_, ?_⟩
        rotate_left
        · intro i j p q n m c d hij hj hi hq
          have hi2 := (set3_at (x := .string ss[k].name) (y := .slice A2 ss[k].after.length c2) (z := .bool ss[k].undo) hvl' (show i ≠ k by omega) 1 (by omega)).symm.trans hi
          by_cases e : j = k
          · subst e
            obtain ⟨_, ⟨A', c', e1, ho'⟩, _⟩ := hdone.out i (by omega) hij
            obtain ⟨_, e2, _⟩ := set3_new (x := .string ss[j].name) (y := .slice A2 ss[j].after.length c2) (z := .bool ss[j].undo) hvl'
            rw [e2] at hq
            rw [e1] at hi2
            injection hi2 with hi3
            injection hi3 with hi4 _ _
            injection hq with hq3
            injection hq3 with hq4 _ _
            subst hi4 hq4
            have l1 := ho'.block_
            have l2 := ho2.block_
            omega
          · have hq2 := (set3_at (x := .string ss[k].name) (y := .slice A2 ss[k].after.length c2) (z := .bool ss[k].undo) hvl' e 1 (by omega)).symm.trans hq
            exact hdis.out i j p q n m c d hij (by omega) hi2 hq2
        have hlow : ∀ {A' c' xs}, OwnStrs w1 (w.heap.size + 1) A' c' xs → OwnStrs (((w1.setCell ⟨w.heap.size, k * 3, none⟩ (.string ss[k].name)).setCell ⟨w.heap.size, k * 3 + 1, none⟩ (.slice A2 ss[k].after.length c2)).setCell ⟨w.heap.size, k * 3 + 2, none⟩ (.bool ss[k].undo)) (w.heap.size + 1) A' c' xs :=
          fun ho => ((ho.setLow (by show w.heap.size < _; omega) _).setLow (by show w.heap.size < _; omega) _).setLow (by show w.heap.size < _; omega) _
        by_cases e : j = k
        · subst e
          obtain ⟨e0, e1, e2⟩ := set3_new (x := .string ss[j].name) (y := .slice A2 ss[j].after.length c2) (z := .bool ss[j].undo) hvl'
          exact ⟨e0, ⟨A2, c2, e1, hlow (ho2.base_ hbl)⟩, e2⟩
        · obtain ⟨e0, ⟨A', c', e1, ho'⟩, e2⟩ := hdone.out j hj (by omega)
          have q0 := set3_at (x := .string ss[k].name) (y := .slice A2 ss[k].after.length c2) (z := .bool ss[k].undo) hvl' e 0 (by omega)
          have q1 := set3_at (x := .string ss[k].name) (y := .slice A2 ss[k].after.length c2) (z := .bool ss[k].undo) hvl' e 1 (by omega)
          have q2 := set3_at (x := .string ss[k].name) (y := .slice A2 ss[k].after.length c2) (z := .bool ss[k].undo) hvl' e 2 (by omega)
          exact ⟨q0.trans e0, ⟨A', c', q1.trans e1, hlow (ho'.below hb1)⟩, q2.trans e2⟩
      case measure => simp [intOf]; omega
    · obtain rfl : k = ss.length := by omega
      go_wp2_with fail
      go_ret
      exact ⟨_, _, rfl, ⟨⟨_, vs, rfl, Nat.le_refl _, hown, fun j hj => hdone.out j hj hj, hdis.out⟩, h.lens⟩, hb⟩

/-- A flow is handed back, in memory of the call's own. -/
def RetFlow (ver : Int) (ss : List St) (w : World) (e : Ending) (w' : World) : Prop :=
  ∃ A c, e = .returned (.agg #[.int .i64 ver, .slice A ss.length c]) ∧ OwnSts w' w.heap.size A c ss ∧ Below w.heap.size w w'

theorem OwnSts.setLow {w : World} {base : Nat} {A : Option Addr} {c : Nat} {ss : List St} (h : OwnSts w base A c ss) {a : Addr} (ha : a.block < base) (u : Value) : OwnSts (w.setCell a u) base A c ss := by
  obtain ⟨⟨b, vs, e, hbase, hr, hj, hd⟩, hl⟩ := h
  refine ⟨⟨b, vs, e, hbase, ownsRow_setCell_below hr ha u, fun j h => ?_, hd⟩, hl⟩
  obtain ⟨h0, ⟨A', c', h1, h2⟩, h3⟩ := hj j h
  exact ⟨h0, ⟨A', c', h1, h2.setLow (by omega) u⟩, h3⟩

set_option maxHeartbeats 1000000 in
theorem toFlow_any (ver : Int) (A : Option Addr) (c : Nat) (ss : List St) (w : World) (B : Nat) (h : Sts w B A c ss) (hl : ss.length ≤ 1048576) (hal : ∀ s ∈ ss, s.after.length ≤ 1048576) :
    Calls Try.prog 28 #[.agg #[.int .i64 ver, .slice A ss.length c]] w (RetFlow ver ss w) := by
  have ha := fun o1 o2 o3 => ((h.fit.alloc (Nat.le_refl _) o1).alloc (by simp) o2).alloc (by simp; omega) o3
  go_enter Try.func28, Try.ntmps28
  go_wp2_with fail
  refine (toStepS_any A c ss _ _ (ha _ _ _) hl hal).mono ?_
  rintro e w1 ⟨A1, c1, rfl, ho1, hb1⟩
  obtain ⟨hc, hf⟩ := bcell hb1
  have hz : w.heap.size + 1 + 1 < w1.heap.size := by have := hb1.size; simp at this; omega
  have hz0 : w.heap.size < w1.heap.size := by omega
  have hz1 : w.heap.size + 1 < w1.heap.size := by omega
  go_wp2_with fail
  refine bodyPost_ret (v := .agg #[.int .i64 ver, .slice A1 ss.length c1]) (by simp [results, Try.results28, go_sem, hc]) rfl ?_
  have hbw : Below w.heap.size w w1 := bthen ((((Below.refl _ _).alloc (Nat.le_refl _) _).alloc (by simp) _).alloc (by simp; omega) _) hb1
  have hs : ∀ a : Addr, a.block < w.heap.size + 3 → a.block < (((w.alloc (.cells #[.int .i64 ver, .slice A ss.length c] 43)).alloc (.cells #[.int .i64 0, .slice none 0 0] 25)).alloc (.cells #[.int .i64 ver, .slice none 0 0] 25)).heap.size := fun a ha => by simp; omega
  refine ⟨A1, c1, rfl, ?_, ?_⟩
  · exact (((ho1.setLow (hs _ (by show w.heap.size + 1 + 1 < _; omega)) _).setLow (hs _ (by show w.heap.size + 1 < _; omega)) _).setLow (hs _ (by show w.heap.size + 1 < _; omega)) _).base_ (by simp; omega)
  · exact ((hbw.setCell (by show w.heap.size ≤ w.heap.size + 1 + 1; omega) _).setCell (by show w.heap.size ≤ w.heap.size + 1; omega) _).setCell (by show w.heap.size ≤ w.heap.size + 1; omega) _

set_option maxHeartbeats 2000000 in
theorem eqStepS_same (A A' : Option Addr) (c c' : Nat) (ss : List St) (w : World) (B B' : Nat) (h : Sts w B A c ss) (h' : Sts w B' A' c' ss) :
    Calls Try.prog 70 #[.slice A ss.length c, .slice A' ss.length c'] w fun e w' => e = .returned (.bool true) ∧ Below w.heap.size w w' := by
  have h1 := h.len
  have h2 := h.cap
  have h3 := h'.len
  have h4 := h'.cap
  go_enter Try.func70, Try.ntmps70
  go_wp2
  go_loopw [5] (fun i wr => ∃ k : Nat, k ≤ ss.length ∧ i = .int .i64 k ∧ Below w.heap.size w wr) (fun i _ => ss.length - (intOf i).toNat)
  case atStart => exact ⟨0, Nat.zero_le _, rfl, Below.refl _ _⟩
  case round =>
    obtain ⟨k, hk, rfl, hb⟩ := hrel
    by_cases hlt : k < ss.length
    · have hi0 : (0 : Int) ≤ k := by omega
      have hi1 : (k : Int) < ss.length := by omega
      obtain ⟨ad, A1, c1, rfl, _, x0, x1, x2, hs⟩ := (h.then_ hb).at_ hlt
      obtain ⟨ad', A1', c1', rfl, _, y0, y1, y2, hs'⟩ := (h'.then_ hb).at_ hlt
      have K := Lib.hid (eqStep_any ss[k].name ss[k].name A1 A1' c1 c1' ss[k].after ss[k].after ss[k].undo ss[k].undo wr.drew _ _ hs.drew hs'.drew true (Lib.hid (by simp)))
      go_wp2
      go_region_with (go_at_call 29; (with_reducible refine K.out.mono ?_); rintro e w1 ⟨rfl, hb1⟩)
      all_goals
        have hbw : Below w.heap.size w w1 := bthen hb ⟨hb1.os, hb1.tape, hb1.output, hb1.size, hb1.block⟩
        go_wp2_with fail
        go_roundw
        case rel => exact ⟨k + 1, by omega, by go_num, hbw⟩
        case measure => simp [intOf]; omega
    · go_wp2
      go_ret
      exact ⟨rfl, hb⟩

set_option maxHeartbeats 1000000 in
theorem eqFlow_same (ver : Int) (A A' : Option Addr) (c c' : Nat) (ss : List St) (w : World) (B B' : Nat) (h : Sts w B A c ss) (h' : Sts w B' A' c' ss) :
    Calls Try.prog 30 #[.agg #[.int .i64 ver, .slice A ss.length c], .agg #[.int .i64 ver, .slice A' ss.length c']] w fun e w' => e = .returned (.bool true) ∧ Below w.heap.size w w' := by
  have hb0 : ∀ o1 o2, Below w.heap.size w ((w.alloc o1).alloc o2) := fun o1 o2 => ((Below.refl _ _).alloc (Nat.le_refl _) _).alloc (by simp) _
  have ha := fun o1 o2 => (h.fit.alloc (Nat.le_refl _) o1).alloc (by simp) o2
  have ha' := fun o1 o2 => (h'.fit.alloc (Nat.le_refl _) o1).alloc (by simp) o2
  go_enter Try.func30, Try.ntmps30
  go_wp2_with fail
  refine (eqStepS_same A A' c c' ss _ _ _ (ha _ _) (ha' _ _)).mono ?_
  rintro e w1 ⟨rfl, hb1⟩
  go_wp2_with fail
  go_ret
  exact ⟨rfl, bthen (hb0 _ _) hb1⟩
end Go.Proofs.Ytfkjcldaclkkaaa
