/- Contracts of markStepS, markFlow: what a flow of the call's own holds turns, and nothing else. Condition: sizes as the laws ask them. -/
import Derived.Test.YtfkjcldaclkkaaaMarks
namespace Go.Proofs.Ytfkjcldaclkkaaa
set_option linter.unusedVariables false
set_option maxRecDepth 100000
open Go.RowKit Go.Deep

/-- Of what lay there, nothing has turned but blocks from lo on that lie below hi. -/
structure Betw (lo hi : Nat) (w w' : World) : Prop where
  os : w'.os = w.os
  tape : w'.tape = w.tape
  output : w'.output = w.output
  size : w.heap.size ≤ w'.heap.size
  block : ∀ k, k < w.heap.size → k < lo ∨ hi ≤ k → w'.heap[k]? = w.heap[k]?
section
variable {lo hi : Nat} {w a b : World}
theorem Betw.refl (lo hi : Nat) (w : World) : Betw lo hi w w := ⟨rfl, rfl, rfl, Nat.le_refl _, fun _ _ _ => rfl⟩
theorem Betw.below_ (h : Betw lo hi w a) (k : Below a.heap.size a b) : Betw lo hi w b :=
  ⟨k.os.trans h.os, k.tape.trans h.tape, k.output.trans h.output, Nat.le_trans h.size k.size, fun i hi' hne => (k.block i (by have := h.size; omega)).trans (h.block i hi' hne)⟩
theorem Betw.set (h : Betw lo hi w a) {p : Addr} (h1 : lo ≤ p.block) (h2 : p.block < hi) (u : Value) : Betw lo hi w (a.setCell p u) :=
  ⟨h.os, h.tape, h.output, by simp [World.setCell]; exact h.size, fun i hi' hne => (Below.heap_setCell a p u i (fun e => by omega)).trans (h.block i hi' hne)⟩
theorem Betw.grown (h : Betw lo hi w a) {row : Option Nat} (hg : a.grownBy b row) (hr : ∀ k, row = some k → lo ≤ k ∧ k < hi) : Betw lo hi w b :=
  ⟨hg.os.trans h.os, hg.tape.trans h.tape, hg.output.trans h.output, Nat.le_trans h.size hg.size, fun i hi' hne =>
    (hg.block i (by have := h.size; omega) (fun e => by have := hr i e.symm; omega)).trans (h.block i hi' hne)⟩
theorem Betw.trans (h : Betw lo hi w a) (k : Betw lo hi a b) : Betw lo hi w b :=
  ⟨k.os.trans h.os, k.tape.trans h.tape, k.output.trans h.output, Nat.le_trans h.size k.size, fun i hi' hne => (k.block i (by have := h.size; omega) hne).trans (h.block i hi' hne)⟩
theorem Betw.more {lo' hi' : Nat} (h : Betw lo hi w a) (h1 : lo' ≤ lo) (h2 : hi ≤ hi') : Betw lo' hi' w a :=
  ⟨h.os, h.tape, h.output, h.size, fun i hi' hne => h.block i hi' (by omega)⟩
theorem Betw.low (h : Betw lo hi w a) (hl : lo ≤ w.heap.size) : Below lo w a :=
  ⟨h.os, h.tape, h.output, h.size, fun k hk => h.block k (by omega) (.inl hk)⟩
theorem Betw.own {base : Nat} {A : Option Addr} {c : Nat} {xs : List ByteArray} (h : Betw lo hi w a) (ho : OwnStrs w base A c xs) (hb : hi ≤ base) : OwnStrs a base A c xs := by
  obtain ⟨⟨h1, h2⟩, hx⟩ := ho
  refine ⟨⟨h1, ?_⟩, hx⟩
  rcases h2 with h2 | ⟨g, cap, cur, hv, hg, hh, r⟩
  · exact .inl h2
  · exact .inr ⟨g, cap, cur, hv, hg, by rw [h.block g (Array.getElem?_eq_some_iff.1 hh).1 (.inr (by omega))]; exact hh, r⟩
theorem own_kept {base : Nat} {A : Option Addr} {c : Nat} {xs : List ByteArray} {row : Option Nat} (ho : OwnStrs w base A c xs) (hg : w.grownBy a row) (hne : ∀ p, A = some p → row ≠ some p.block) : OwnStrs a base A c xs :=
  ⟨ho.1.kept hg (by
    cases A with
    | none => exact .inl rfl
    | some p => exact .inr fun e => hne p rfl e.symm), ho.2⟩
end

/-- How many names the first steps come after. -/
def cntA (ss : List St) (j : Nat) : Nat := ((ss.take j).map fun s => s.after.length).sum
theorem cntA_succ {ss : List St} {j : Nat} (h : j < ss.length) : cntA ss (j + 1) = cntA ss j + ss[j].after.length := by
  unfold cntA
  rw [List.take_succ_eq_append_getElem h]
  simp only [List.map_append, List.map_cons, List.map_nil, List.sum_append, List.sum_cons, List.sum_nil]
  omega
theorem cntA_le (ss : List St) (j : Nat) : cntA ss j ≤ totSt ss := by
  induction ss generalizing j with
  | nil => simp [cntA]
  | cons x r ih =>
    cases j with
    | zero => simp [cntA]
    | succ j =>
      have h1 := ih j
      have h2 := tot_len x.after
      unfold cntA at h1 ⊢
      simp only [List.take_succ_cons, List.map_cons, List.sum_cons, totSt]
      omega

set_option maxHeartbeats 2000000 in
theorem markStepS_any (A : Option Addr) (c : Nat) (ss : List St) (w0 w : World) (base : Nat) (h : OwnSts w0 base A c ss) (hb : Below w0.heap.size w0 w) (hl : ss.length + totSt ss ≤ 1048576) :
    Calls Try.prog 71 #[.slice A ss.length c, .int .i64 1] w fun e w' => (∃ m : Nat, e = .returned (.int .i64 m) ∧ 1 ≤ m ∧ m ≤ 5000000) ∧ Betw base w0.heap.size w w' := by
  obtain ⟨⟨b, vs, rfl, hbase, hr, hj, hd⟩, hlens⟩ := h
  have hbl : b < w0.heap.size := (hr.lt b rfl).2
  have h1 : ss.length ≤ c ∧ c ≤ 9223372036854775807 := by
    rcases hr.2 with ⟨hv, _⟩ | ⟨g, cap, cur, hv, _, _, hnc, hcm, _⟩
    · cases hv
    · injection hv with e1 e2 e3
      subst e3
      exact ⟨hnc, by simpa [maxLen] using hcm⟩
  obtain ⟨h1, h2⟩ := h1
  have hcl := cntA_le ss
  have hr1 := own_below hr hb
  have hj1 : ∀ j (h : j < ss.length), ∃ A' c', vs[j * 3 + 1]? = some (.slice A' ss[j].after.length c') ∧ OwnStrs w (b + 1) A' c' ss[j].after ∧ ∀ p, A' = some p → p.block < w0.heap.size := by
    intro j h
    obtain ⟨_, ⟨A', c', e1, ho⟩, _⟩ := hj j h
    refine ⟨A', c', e1, ho.below hb, fun p hp => ?_⟩
    subst hp
    exact ho.block_.2
  have Hd := Lib.hid hd
  have Hj := Lib.hid hj1
  have Hcl := Lib.hid hcl
  have Hr := Lib.hid hr1
  clear hd hj hj1 hcl hr hr1
  go_enter Try.func71, Try.ntmps71
  go_wp2_with fail
  go_loopw [1, 5] (fun q i wr => ∃ (j m : Nat) (vs' : List Value), j ≤ ss.length ∧ i = .int .i64 j ∧ q = .int .i64 m ∧ m = 1 + 2 * j + cntA ss j ∧ wr.ownsRow base 30 3 (.slice (some ⟨b, 0, none⟩) ss.length c) ss.length vs' ∧
    (∀ i, j ≤ i → i < ss.length → vs'[i * 3 + 1]? = vs[i * 3 + 1]?) ∧
    (∀ i (h : i < ss.length), j ≤ i → ∃ A' c', vs[i * 3 + 1]? = some (.slice A' ss[i].after.length c') ∧ OwnStrs wr (b + 1) A' c' ss[i].after ∧ ∀ p, A' = some p → p.block < w0.heap.size) ∧
    Betw base w0.heap.size w wr) (fun _ i _ => ss.length - (intOf i).toNat)
  case atStart => exact ⟨0, 1, vs, Nat.zero_le _, rfl, rfl, by simp [cntA], Hr.out, fun _ _ _ => rfl, fun i h _ => Hj.out i h, Betw.refl _ _ _⟩
  case round =>
    obtain ⟨j, m, vs', hk, rfl, rfl, hm0, hown, hvs0, hal0, hbt⟩ := hrel
    have hm := Lib.hid hm0
    have hvs := Lib.hid hvs0
    have hal := Lib.hid hal0
    have hcj := Hcl.out j
    have hm1 : 1 ≤ m := by omega
    clear hm0 hvs0 hal0
    by_cases hlt : j < ss.length
    · have hm2 : m ≤ 5000000 := by have := hm.out; omega
      have hvl := hown.1
      have hvl' : j * 3 + 3 ≤ vs'.length := by omega
      clear hvl
      obtain ⟨A', c', e1, ho', hp'⟩ := hal.out j hlt (Nat.le_refl _)
      have hv1 := Lib.hid ((hvs.out j (Nat.le_refl _) hlt).trans e1)
      have E1 := Lib.hid e1
      have Hp := Lib.hid hp'
      clear e1 hp'
      go_wp2_with fail
      refine (markText_any m hm1 (by omega) _).mono ?_
      rintro e w1 ⟨rfl, hb1⟩
      have hown1 := own_below hown hb1
      obtain ⟨x0, hx0⟩ : ∃ x, vs'[j * 3]? = some x := ⟨_, List.getElem?_eq_getElem (by omega)⟩
      obtain ⟨x2, hx2⟩ : ∃ x, vs'[j * 3 + 2]? = some x := ⟨_, List.getElem?_eq_getElem (by omega)⟩
      have hc0 : w1.cell? ⟨b, j * 3, none⟩ = some x0 := by rw [hown1.cellAt _ (by omega)]; exact hx0
      have hf0 := hown1.frozenAt (j * 3)
      have hown2 := (hown1.stored (j * 3) (.string (markOf m))).1
      have hc1 : (w1.setCell ⟨b, j * 3, none⟩ (.string (markOf m))).cell? ⟨b, j * 3 + 1, none⟩ = some (.slice A' ss[j].after.length c') := by
        rw [hown2.cellAt _ (by omega), List.getElem?_set_ne (by omega)]; exact hv1.out
      have ho2 := (ho'.below hb1).setLow (a := ⟨b, j * 3, none⟩) (by show b < b + 1; omega) (.string (markOf m))
      have hbt2 := (hbt.below_ hb1).set (p := ⟨b, j * 3, none⟩) hbase hbl (.string (markOf m))
      have hdone : (w1.setCell ⟨b, j * 3, none⟩ (.string (markOf m))).heap.size = w1.heap.size := by simp [World.setCell]
      have Hdone := Lib.hid hdone
      clear hdone
      go_wp2_with fail
      refine (markStringS_any A' c' ss[j].after (m + 1) _ _ ho2 (by omega) (by have := cntA_succ hlt; have := Hcl.out (j + 1); have := hm.out; omega)).mono ?_
      rintro e w3 ⟨rfl, ho3, hg3⟩
      have hrow : ∀ k, A'.map (·.block) = some k → base ≤ k ∧ k < w0.heap.size := by
        intro k hk
        cases A' with
        | none => cases hk
        | some p =>
          injection hk with hk
          subst hk
          have := ho2.block_
          exact ⟨by show base ≤ p.block; omega, Hp.out p rfl⟩
      have hown3 := hown2.kept hg3 (.inr (by
        intro e
        cases A' with
        | none => cases e
        | some p =>
          have e' : some b = some p.block := e
          injection e' with e'
          have := ho2.block_
          omega))
      have hbt3 := hbt2.grown hg3 hrow
      have hc2 : w3.cell? ⟨b, j * 3 + 2, none⟩ = some x2 := by rw [hown3.cellAt _ (by omega), List.getElem?_set_ne (by omega)]; exact hx2
      have hf2 := hown3.frozenAt (j * 3 + 2)
      have hn2 : ((m + 1 + ss[j].after.length : Nat) : Int) ≤ 5000000 := by have := cntA_succ hlt; have := Hcl.out (j + 1); have := hm.out; omega
      clear hc0 hf0 hc1 hx0 hx2
      obtain ⟨M, hM⟩ : ∃ M, M = m + 1 + ss[j].after.length := ⟨_, rfl⟩
      rw [← hM] at hn2 ⊢
      have HM := Lib.hid hM
      clear hM
      go_wp2_with fail
      have hown4 := (hown3.stored (j * 3 + 2) (.bool ((M : Int) % 3 == 0))).1
      have hbt4 := hbt3.set (p := ⟨b, j * 3 + 2, none⟩) hbase hbl (.bool ((M : Int) % 3 == 0))
      go_roundw
      case rel =>
        refine ⟨j + 1, M + 1, _, by omega, by go_num, by go_num, by rw [cntA_succ hlt, HM.out, hm.out]; omega, hown4, fun i hi hi' => ?_, fun i hi hji => ?_, hbt4⟩
        · rw [List.getElem?_set_ne (by omega), List.getElem?_set_ne (by omega)]
          exact hvs.out i (by omega) hi'
        · obtain ⟨Ai, ci, e2, hoi, hpi⟩ := hal.out i hi (by omega)
          refine ⟨Ai, ci, e2, ?_, hpi⟩
          refine OwnStrs.setLow (own_kept ((hoi.below hb1).setLow (by show b < b + 1; omega) _) hg3 ?_) (by show b < b + 1; omega) _
          intro p hp hrow2
          subst hp
          cases A' with
          | none => cases hrow2
          | some p' =>
            injection hrow2 with hrow2
            exact Hd.out j i p' p _ _ _ _ (by omega) hi E1.out e2 hrow2
      case measure => simp [intOf]; omega
    · go_wp2_with fail
      go_ret
      exact ⟨⟨m, rfl, hm1, by have := hm.out; omega⟩, hbt⟩

set_option maxHeartbeats 1000000 in
theorem markFlow_any (ver : Int) (A : Option Addr) (c : Nat) (ss : List St) (w0 w : World) (base : Nat) (h : OwnSts w0 base A c ss) (hb : Below w0.heap.size w0 w) (hl : ss.length + totSt ss ≤ 1048576) :
    Calls Try.prog 31 #[.agg #[.int .i64 ver, .slice A ss.length c], .int .i64 1] w fun e w' => (∃ m : Nat, e = .returned (.int .i64 m) ∧ 1 ≤ m ∧ m ≤ 5000000) ∧ Betw base w0.heap.size w w' := by
  have hb0 : ∀ o, Below w.heap.size w (w.alloc o) := fun o => (Below.refl _ _).alloc (Nat.le_refl _) _
  go_enter Try.func31, Try.ntmps31
  go_wp2_with fail
  refine (markStepS_any A c ss w0 _ base h (hb.trans ((hb0 _).mono hb.size)) hl).mono ?_
  rintro e w1 ⟨⟨m, rfl, hm1, hm2⟩, hb1⟩
  go_wp2_with fail
  go_ret
  exact ⟨⟨m, rfl, hm1, hm2⟩, ((Betw.refl _ _ _).below_ (hb0 _)).trans (hb1)⟩
end Go.Proofs.Ytfkjcldaclkkaaa
