/- Contracts of EventRun: program and reference. Condition: at most 2000000 steps. -/
import Derived.Test.YtaelacpkagcffaaRunFns
import Derived.Test.YtaelacpkagcffaaSpecRunFns
import Derived.Test.YtaelacpkagcffaaRunLaws
namespace Go.Proofs.Ytaelacpkagcffaa
set_option linter.unusedVariables false
set_option maxRecDepth 100000
open Go.RowKit

/-- What an event does. -/
def evB (ver : Int) (ss : List St) (st : Int) (done : List ByteArray) (kd : Int) (nm : ByteArray) : Bool :=
  if kd = 1 then canB ver ss st done nm else if kd = 2 then canB ver ss st done nm else if kd = 3 then undoB ver ss st done && decide (undoName ver ss st done = nm) else false
def evSt (ver : Int) (ss : List St) (st : Int) (done : List ByteArray) (kd : Int) (nm : ByteArray) : Int :=
  if kd = 1 then doSt ver ss st done nm else if kd = 2 then failSt ver ss st done nm else if kd = 3 ∧ undoName ver ss st done = nm then undoSt ver ss st done else 0
def evDone (ver : Int) (ss : List St) (st : Int) (done : List ByteArray) (kd : Int) (nm : ByteArray) : List ByteArray :=
  if kd = 1 then doDone ver ss st done nm else if kd = 2 then failDone ver ss st done nm else if kd = 3 ∧ undoName ver ss st done = nm then undoDone ver ss st done else []
section
variable {ver st : Int} {ss : List St} {done : List ByteArray} {kd : Int} {nm : ByteArray}
theorem ev_one : evB ver ss st done 1 nm = canB ver ss st done nm ∧ evSt ver ss st done 1 nm = doSt ver ss st done nm ∧ evDone ver ss st done 1 nm = doDone ver ss st done nm := ⟨rfl, rfl, rfl⟩
theorem ev_two : evB ver ss st done 2 nm = canB ver ss st done nm ∧ evSt ver ss st done 2 nm = failSt ver ss st done nm ∧ evDone ver ss st done 2 nm = failDone ver ss st done nm := ⟨rfl, rfl, rfl⟩
theorem ev_three (h : undoB ver ss st done = true) (hn : undoName ver ss st done = nm) : evB ver ss st done 3 nm = true ∧ evSt ver ss st done 3 nm = undoSt ver ss st done ∧ evDone ver ss st done 3 nm = undoDone ver ss st done := by
  unfold evB evSt evDone
  simp [h, hn]
theorem ev_three_name (hn : ¬ undoName ver ss st done = nm) : evB ver ss st done 3 nm = false ∧ evSt ver ss st done 3 nm = 0 ∧ evDone ver ss st done 3 nm = [] := by
  unfold evB evSt evDone
  simp [hn]
theorem ev_three_no (h : undoB ver ss st done = false) : evB ver ss st done 3 nm = false ∧ evSt ver ss st done 3 nm = 0 ∧ evDone ver ss st done 3 nm = [] := by
  unfold evB evSt evDone
  simp [h, undoSt_no h, undoDone_no h]
theorem ev_other (h1 : ¬ kd = 1) (h2 : ¬ kd = 2) (h3 : ¬ kd = 3) : evB ver ss st done kd nm = false ∧ evSt ver ss st done kd nm = 0 ∧ evDone ver ss st done kd nm = [] := by
  unfold evB evSt evDone
  simp [h1, h2, h3]
end

set_option maxHeartbeats 4000000 in
theorem iEventRun_any (ver st : Int) (SA D : Option Addr) (sc d : Nat) (ss : List St) (done : List ByteArray) (kd : Int) (nm : ByteArray) (w : World) (B B' : Nat) (h : Sts w B SA sc ss) (hd : Strs w B' D d done) (hnm : nm.size ≤ 9223372036854775807) (hl : ss.length ≤ 2000000) :
    Calls Try.prog 20 #[flowV ver SA ss.length sc, runV st D done.length d, .agg #[.int .i64 kd, .string nm]] w (RetRun (evSt ver ss st done kd nm) (evDone ver ss st done kd nm) (evB ver ss st done kd nm) w) := by
  have b0 : Below w.heap.size w ((((w.alloc (.cells #[.int .i64 ver, .slice SA ss.length sc] 38)).alloc (.cells #[.int .i64 st, .slice D done.length d] 33)).alloc (.cells #[.int .i64 kd, .string nm] 41)).alloc (.cells #[.int .i64 0, .slice none 0 0] 33)) := ((((Below.refl _ _).alloc (Nat.le_refl _) _).alloc (by simp) _).alloc (by simp; omega) _).alloc (by simp; omega) _
  have hs4 : ((((w.alloc (.cells #[.int .i64 ver, .slice SA ss.length sc] 38)).alloc (.cells #[.int .i64 st, .slice D done.length d] 33)).alloc (.cells #[.int .i64 kd, .string nm] 41)).alloc (.cells #[.int .i64 0, .slice none 0 0] 33)).heap.size = w.heap.size + 4 := by simp
  by_cases k1 : kd = 1
  · subst k1
    obtain ⟨q1, q2, q3⟩ := @ev_one ver st ss done nm
    have E1 := Lib.hid q1
    have E2 := Lib.hid q2
    have E3 := Lib.hid q3
    clear q1 q2 q3
    go_enter Try.func20, Try.ntmps20
    go_wp2_with fail
    (with_reducible refine (iRunDo_any ver st SA D sc d ss done nm _ _ _ (h.then_ b0) (hd.then_ b0) hnm hl).mono ?_)
    rintro e w1 ⟨A1, c1, rfl, ho1, hb1⟩
    have b1 := bthen b0 hb1
    obtain ⟨hc, hf⟩ := bcell hb1
    have hz : w.heap.size + 3 < w1.heap.size := by have := hb1.size; simp at this; omega
    go_wp2_with fail
    refine bodyPost_ret (v := .tuple #[.agg #[.int .i64 (doSt ver ss st done nm), .slice A1 (doDone ver ss st done nm).length c1], .bool (canB ver ss st done nm)]) (by simp [results, Try.results20, go_sem, hc]) rfl ?_
    rw [E1.out, E2.out, E3.out]
    refine ⟨A1, c1, rfl, ?_, (b1.setCell (by show w.heap.size ≤ w.heap.size + 3; omega) _).setCell (by show w.heap.size ≤ w.heap.size + 3; omega) _⟩
    rw [hs4] at ho1
    exact ((ho1.setLow (a := ⟨w.heap.size + 3, 0, none⟩) (by show w.heap.size + 3 < w.heap.size + 4; omega) _).setLow (a := ⟨w.heap.size + 3, 1, none⟩) (by show w.heap.size + 3 < w.heap.size + 4; omega) _).base_ (by omega)
  by_cases k2 : kd = 2
  · subst k2
    obtain ⟨q1, q2, q3⟩ := @ev_two ver st ss done nm
    have E1 := Lib.hid q1
    have E2 := Lib.hid q2
    have E3 := Lib.hid q3
    clear q1 q2 q3
    go_enter Try.func20, Try.ntmps20
    go_wp2_with fail
    (with_reducible refine (iRunFail_any ver st SA D sc d ss done nm _ _ _ (h.then_ b0) (hd.then_ b0) hl).mono ?_)
    rintro e w1 ⟨A1, c1, rfl, ho1, hb1⟩
    have b1 := bthen b0 hb1
    obtain ⟨hc, hf⟩ := bcell hb1
    have hz : w.heap.size + 3 < w1.heap.size := by have := hb1.size; simp at this; omega
    go_wp2_with fail
    refine bodyPost_ret (v := .tuple #[.agg #[.int .i64 (failSt ver ss st done nm), .slice A1 (failDone ver ss st done nm).length c1], .bool (canB ver ss st done nm)]) (by simp [results, Try.results20, go_sem, hc]) rfl ?_
    rw [E1.out, E2.out, E3.out]
    refine ⟨A1, c1, rfl, ?_, (b1.setCell (by show w.heap.size ≤ w.heap.size + 3; omega) _).setCell (by show w.heap.size ≤ w.heap.size + 3; omega) _⟩
    rw [hs4] at ho1
    exact ((ho1.setLow (a := ⟨w.heap.size + 3, 0, none⟩) (by show w.heap.size + 3 < w.heap.size + 4; omega) _).setLow (a := ⟨w.heap.size + 3, 1, none⟩) (by show w.heap.size + 3 < w.heap.size + 4; omega) _).base_ (by omega)
  by_cases k3 : kd = 3
  · subst k3
    clear k1 k2
    go_enter Try.func20, Try.ntmps20
    go_wp2_with fail
    (with_reducible refine (iRunUndo_any ver st SA D sc d ss done _ _ _ (h.then_ b0) (hd.then_ b0) hl).mono ?_)
    rintro e w1 ⟨A1, c1, rfl, ho1, hb1⟩
    have b1 := bthen b0 hb1
    obtain ⟨hc, hf⟩ := bcell hb1
    have hz : w.heap.size + 3 < w1.heap.size := by have := hb1.size; simp at this; omega
    have hz2 : w.heap.size + 2 < w1.heap.size := by omega
    cases u : undoB ver ss st done
    · obtain ⟨q1, q2, q3⟩ := @ev_three_no ver st ss done nm u
      have E1 := Lib.hid q1
      have E2 := Lib.hid q2
      have E3 := Lib.hid q3
      clear q1 q2 q3 u
      go_wp2_with fail
      refine bodyPost_ret (v := .tuple #[.agg #[.int .i64 0, .slice none 0 0], .bool false]) (by simp [results, Try.results20, go_sem, hc, hz]) rfl ?_
      rw [E1.out, E2.out, E3.out]
      exact ⟨none, 0, rfl, OwnStrs.nil_ _ _, ((b1.setCell (by show w.heap.size ≤ w.heap.size + 3; omega) _).setCell (by show w.heap.size ≤ w.heap.size + 3; omega) _).alloc (by simp; omega) _⟩
    · have hsb := str_beq (undoName ver ss st done) nm
      by_cases hn : undoName ver ss st done = nm
      · obtain ⟨q1, q2, q3⟩ := ev_three u hn
        have E1 := Lib.hid q1
        have E2 := Lib.hid q2
        have E3 := Lib.hid q3
        have hq := Lib.hid hn
        rw [decide_eq_true hn] at hsb
        clear q1 q2 q3 u hn
        go_wp2_with fail
        refine bodyPost_ret (v := .tuple #[.agg #[.int .i64 (undoSt ver ss st done), .slice A1 (undoDone ver ss st done).length c1], .bool true]) (by simp [results, Try.results20, go_sem, hc, hz]) rfl ?_
        rw [E1.out, E2.out, E3.out]
        refine ⟨A1, c1, rfl, ?_, ((b1.setCell (by show w.heap.size ≤ w.heap.size + 3; omega) _).setCell (by show w.heap.size ≤ w.heap.size + 3; omega) _).alloc (by simp; omega) _⟩
        rw [hs4] at ho1
        exact (((ho1.setLow (a := ⟨w.heap.size + 3, 0, none⟩) (by show w.heap.size + 3 < w.heap.size + 4; omega) _).setLow (a := ⟨w.heap.size + 3, 1, none⟩) (by show w.heap.size + 3 < w.heap.size + 4; omega) _).alloc _).base_ (by omega)
      · obtain ⟨q1, q2, q3⟩ := @ev_three_name ver st ss done nm hn
        have E1 := Lib.hid q1
        have E2 := Lib.hid q2
        have E3 := Lib.hid q3
        rw [decide_eq_false hn] at hsb
        clear q1 q2 q3 u hn
        go_wp2_with fail
        refine bodyPost_ret (v := .tuple #[.agg #[.int .i64 0, .slice none 0 0], .bool false]) (by simp [results, Try.results20, go_sem, hc, hz]) rfl ?_
        rw [E1.out, E2.out, E3.out]
        exact ⟨none, 0, rfl, OwnStrs.nil_ _ _, ((b1.setCell (by show w.heap.size ≤ w.heap.size + 3; omega) _).setCell (by show w.heap.size ≤ w.heap.size + 3; omega) _).alloc (by simp; omega) _⟩
  · obtain ⟨q1, q2, q3⟩ := @ev_other ver st ss done kd nm k1 k2 k3
    have E1 := Lib.hid q1
    have E2 := Lib.hid q2
    have E3 := Lib.hid q3
    have n1 : (kd == 1) = false := beq_eq_false_iff_ne.2 k1
    have n2 : (kd == 2) = false := beq_eq_false_iff_ne.2 k2
    have n3 : (kd == 3) = false := beq_eq_false_iff_ne.2 k3
    clear q1 q2 q3 k1 k2 k3
    go_enter Try.func20, Try.ntmps20
    go_wp2_with fail
    refine bodyPost_ret (v := .tuple #[.agg #[.int .i64 0, .slice none 0 0], .bool false]) (by simp [results, Try.results20, go_sem]) rfl ?_
    rw [E1.out, E2.out, E3.out]
    exact ⟨none, 0, rfl, OwnStrs.nil_ _ _, b0⟩

set_option maxHeartbeats 4000000 in
theorem sEventRun_any (ver st : Int) (SA D : Option Addr) (sc d : Nat) (ss : List St) (done : List ByteArray) (kd : Int) (nm : ByteArray) (w : World) (B B' : Nat) (h : Sts w B SA sc ss) (hd : Strs w B' D d done) (hnm : nm.size ≤ 9223372036854775807) (hl : ss.length ≤ 2000000) :
    Calls Try.prog 16 #[flowV ver SA ss.length sc, runV st D done.length d, .agg #[.int .i64 kd, .string nm]] w (RetRun (evSt ver ss st done kd nm) (evDone ver ss st done kd nm) (evB ver ss st done kd nm) w) := by
  have b0 : Below w.heap.size w ((((w.alloc (.cells #[.int .i64 ver, .slice SA ss.length sc] 38)).alloc (.cells #[.int .i64 st, .slice D done.length d] 33)).alloc (.cells #[.int .i64 kd, .string nm] 41)).alloc (.cells #[.int .i64 0, .slice none 0 0] 33)) := ((((Below.refl _ _).alloc (Nat.le_refl _) _).alloc (by simp) _).alloc (by simp; omega) _).alloc (by simp; omega) _
  have hs4 : ((((w.alloc (.cells #[.int .i64 ver, .slice SA ss.length sc] 38)).alloc (.cells #[.int .i64 st, .slice D done.length d] 33)).alloc (.cells #[.int .i64 kd, .string nm] 41)).alloc (.cells #[.int .i64 0, .slice none 0 0] 33)).heap.size = w.heap.size + 4 := by simp
  by_cases k1 : kd = 1
  · subst k1
    obtain ⟨q1, q2, q3⟩ := @ev_one ver st ss done nm
    have E1 := Lib.hid q1
    have E2 := Lib.hid q2
    have E3 := Lib.hid q3
    clear q1 q2 q3
    go_enter Try.func16, Try.ntmps16
    go_wp2_with fail
    (with_reducible refine (sRunDo_any ver st SA D sc d ss done nm _ _ _ (h.then_ b0) (hd.then_ b0) hnm hl).mono ?_)
    rintro e w1 ⟨A1, c1, rfl, ho1, hb1⟩
    have b1 := bthen b0 hb1
    obtain ⟨hc, hf⟩ := bcell hb1
    have hz : w.heap.size + 3 < w1.heap.size := by have := hb1.size; simp at this; omega
    go_wp2_with fail
    refine bodyPost_ret (v := .tuple #[.agg #[.int .i64 (doSt ver ss st done nm), .slice A1 (doDone ver ss st done nm).length c1], .bool (canB ver ss st done nm)]) (by simp [results, Try.results16, go_sem, hc]) rfl ?_
    rw [E1.out, E2.out, E3.out]
    refine ⟨A1, c1, rfl, ?_, (b1.setCell (by show w.heap.size ≤ w.heap.size + 3; omega) _).setCell (by show w.heap.size ≤ w.heap.size + 3; omega) _⟩
    rw [hs4] at ho1
    exact ((ho1.setLow (a := ⟨w.heap.size + 3, 0, none⟩) (by show w.heap.size + 3 < w.heap.size + 4; omega) _).setLow (a := ⟨w.heap.size + 3, 1, none⟩) (by show w.heap.size + 3 < w.heap.size + 4; omega) _).base_ (by omega)
  by_cases k2 : kd = 2
  · subst k2
    obtain ⟨q1, q2, q3⟩ := @ev_two ver st ss done nm
    have E1 := Lib.hid q1
    have E2 := Lib.hid q2
    have E3 := Lib.hid q3
    clear q1 q2 q3
    go_enter Try.func16, Try.ntmps16
    go_wp2_with fail
    (with_reducible refine (sRunFail_any ver st SA D sc d ss done nm _ _ _ (h.then_ b0) (hd.then_ b0) hl).mono ?_)
    rintro e w1 ⟨A1, c1, rfl, ho1, hb1⟩
    have b1 := bthen b0 hb1
    obtain ⟨hc, hf⟩ := bcell hb1
    have hz : w.heap.size + 3 < w1.heap.size := by have := hb1.size; simp at this; omega
    go_wp2_with fail
    refine bodyPost_ret (v := .tuple #[.agg #[.int .i64 (failSt ver ss st done nm), .slice A1 (failDone ver ss st done nm).length c1], .bool (canB ver ss st done nm)]) (by simp [results, Try.results16, go_sem, hc]) rfl ?_
    rw [E1.out, E2.out, E3.out]
    refine ⟨A1, c1, rfl, ?_, (b1.setCell (by show w.heap.size ≤ w.heap.size + 3; omega) _).setCell (by show w.heap.size ≤ w.heap.size + 3; omega) _⟩
    rw [hs4] at ho1
    exact ((ho1.setLow (a := ⟨w.heap.size + 3, 0, none⟩) (by show w.heap.size + 3 < w.heap.size + 4; omega) _).setLow (a := ⟨w.heap.size + 3, 1, none⟩) (by show w.heap.size + 3 < w.heap.size + 4; omega) _).base_ (by omega)
  by_cases k3 : kd = 3
  · subst k3
    clear k1 k2
    go_enter Try.func16, Try.ntmps16
    go_wp2_with fail
    (with_reducible refine (sRunUndo_any ver st SA D sc d ss done _ _ _ (h.then_ b0) (hd.then_ b0) hl).mono ?_)
    rintro e w1 ⟨A1, c1, rfl, ho1, hb1⟩
    have b1 := bthen b0 hb1
    obtain ⟨hc, hf⟩ := bcell hb1
    have hz : w.heap.size + 3 < w1.heap.size := by have := hb1.size; simp at this; omega
    have hz2 : w.heap.size + 2 < w1.heap.size := by omega
    cases u : undoB ver ss st done
    · obtain ⟨q1, q2, q3⟩ := @ev_three_no ver st ss done nm u
      have E1 := Lib.hid q1
      have E2 := Lib.hid q2
      have E3 := Lib.hid q3
      clear q1 q2 q3 u
      go_wp2_with fail
      refine bodyPost_ret (v := .tuple #[.agg #[.int .i64 0, .slice none 0 0], .bool false]) (by simp [results, Try.results16, go_sem, hc, hz]) rfl ?_
      rw [E1.out, E2.out, E3.out]
      exact ⟨none, 0, rfl, OwnStrs.nil_ _ _, ((b1.setCell (by show w.heap.size ≤ w.heap.size + 3; omega) _).setCell (by show w.heap.size ≤ w.heap.size + 3; omega) _).alloc (by simp; omega) _⟩
    · have hsb := str_beq (undoName ver ss st done) nm
      by_cases hn : undoName ver ss st done = nm
      · obtain ⟨q1, q2, q3⟩ := ev_three u hn
        have E1 := Lib.hid q1
        have E2 := Lib.hid q2
        have E3 := Lib.hid q3
        have hq := Lib.hid hn
        rw [decide_eq_true hn] at hsb
        clear q1 q2 q3 u hn
        go_wp2_with fail
        refine bodyPost_ret (v := .tuple #[.agg #[.int .i64 (undoSt ver ss st done), .slice A1 (undoDone ver ss st done).length c1], .bool true]) (by simp [results, Try.results16, go_sem, hc, hz]) rfl ?_
        rw [E1.out, E2.out, E3.out]
        refine ⟨A1, c1, rfl, ?_, ((b1.setCell (by show w.heap.size ≤ w.heap.size + 3; omega) _).setCell (by show w.heap.size ≤ w.heap.size + 3; omega) _).alloc (by simp; omega) _⟩
        rw [hs4] at ho1
        exact (((ho1.setLow (a := ⟨w.heap.size + 3, 0, none⟩) (by show w.heap.size + 3 < w.heap.size + 4; omega) _).setLow (a := ⟨w.heap.size + 3, 1, none⟩) (by show w.heap.size + 3 < w.heap.size + 4; omega) _).alloc _).base_ (by omega)
      · obtain ⟨q1, q2, q3⟩ := @ev_three_name ver st ss done nm hn
        have E1 := Lib.hid q1
        have E2 := Lib.hid q2
        have E3 := Lib.hid q3
        rw [decide_eq_false hn] at hsb
        clear q1 q2 q3 u hn
        go_wp2_with fail
        refine bodyPost_ret (v := .tuple #[.agg #[.int .i64 0, .slice none 0 0], .bool false]) (by simp [results, Try.results16, go_sem, hc, hz]) rfl ?_
        rw [E1.out, E2.out, E3.out]
        exact ⟨none, 0, rfl, OwnStrs.nil_ _ _, ((b1.setCell (by show w.heap.size ≤ w.heap.size + 3; omega) _).setCell (by show w.heap.size ≤ w.heap.size + 3; omega) _).alloc (by simp; omega) _⟩
  · obtain ⟨q1, q2, q3⟩ := @ev_other ver st ss done kd nm k1 k2 k3
    have E1 := Lib.hid q1
    have E2 := Lib.hid q2
    have E3 := Lib.hid q3
    have n1 : (kd == 1) = false := beq_eq_false_iff_ne.2 k1
    have n2 : (kd == 2) = false := beq_eq_false_iff_ne.2 k2
    have n3 : (kd == 3) = false := beq_eq_false_iff_ne.2 k3
    clear q1 q2 q3 k1 k2 k3
    go_enter Try.func16, Try.ntmps16
    go_wp2_with fail
    refine bodyPost_ret (v := .tuple #[.agg #[.int .i64 0, .slice none 0 0], .bool false]) (by simp [results, Try.results16, go_sem]) rfl ?_
    rw [E1.out, E2.out, E3.out]
    exact ⟨none, 0, rfl, OwnStrs.nil_ _ _, b0⟩
end Go.Proofs.Ytaelacpkagcffaa
