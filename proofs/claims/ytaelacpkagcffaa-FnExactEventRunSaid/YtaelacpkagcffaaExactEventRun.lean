/- FnExactEventRun returns true for all arguments. No condition. -/
import Derived.Test.YtaelacpkagcffaaFlowArgs
import Derived.Test.YtaelacpkagcffaaFlowFns
import Derived.Test.YtaelacpkagcffaaMarkFlow
import Derived.Test.YtaelacpkagcffaaExactWords
import Derived.Test.YtaelacpkagcffaaRunCopies
import Derived.Test.YtaelacpkagcffaaRunArgs
import Derived.Test.YtaelacpkagcffaaRunLaws
import Derived.Test.YtaelacpkagcffaaRunFns
import Derived.Test.YtaelacpkagcffaaSpecRunFns
import Derived.Test.YtaelacpkagcffaaExactBox
import Derived.Test.YtaelacpkagcffaaEvArg
import Derived.Test.YtaelacpkagcffaaEvCopies
import Derived.Test.YtaelacpkagcffaaEventRun
namespace Go.Proofs.Ytaelacpkagcffaa
set_option linter.unusedVariables false
set_option maxRecDepth 100000
open Go.ChangeShapes Go.WideShapes Go.ChangeAt Go.RowKit

set_option maxHeartbeats 16000000 in
theorem exactEventRun_law (W : World) (v0 v1 v2 : Value) (h0 : IsFlow W v0) (h1 : IsRun W v1) (h2 : IsEvent v2) : Calls Try.prog 3 #[v0, v1, v2] W fun e W' => e = .returned (.bool true) ∧ Below W.heap.size W W' := by
  obtain ⟨ver0, A0, c0, ss0, rfl, hx0⟩ := h0
  have hlen0 := hx0.len
  have hcap0 := hx0.cap
  obtain ⟨st1, A1, c1, xs1, rfl, hx1⟩ := h1
  have hlen1 := hx1.len
  have hcap1 := hx1.cap
  have htot1 := tot_len xs1
  obtain ⟨kd2, nm2, rfl, hx2⟩ := h2
  go_enter Try.func3, Try.ntmps3
  have b0 : Below W.heap.size W ((((W.alloc (.cells #[.int .i64 ver0, .slice A0 ss0.length c0] 24)).alloc (.cells #[.int .i64 st1, .slice A1 xs1.length c1] 27)).alloc (.cells #[.int .i64 kd2, .string nm2] 29))) := ((((Below.refl _ _).alloc (Nat.le_refl _) _).alloc (by simp) _).alloc (by simp; omega) _)
  obtain ⟨q_0, hq_0⟩ : ∃ q_0 : Nat, q_0 = 1048576 - (ss0.length + totSt ss0) := ⟨_, rfl⟩
  go_wp2_with fail
  refine (szFlow_any ver0 A0 c0 ss0 1048576 _ _ (((hx0.alloc2 _).alloc2 _).alloc2 _) (by omega)).mono ?_
  rintro e w1 ⟨rfl, hbr1⟩
  have hb1 := bthen b0 hbr1
  have b1 := hb1
  have qa01 := (((Cell2.new W (.int .i64 ver0) (.slice A0 ss0.length c0) 24).alloc _).alloc _).then_ hbr1
  have la0 := qa01.lt
  have qa11 : Cell2 w1 (W.heap.size + 1) (.int .i64 st1) (.slice A1 xs1.length c1) := by have := ((Cell2.new (W.alloc (.cells #[.int .i64 ver0, .slice A0 ss0.length c0] 24)) (.int .i64 st1) (.slice A1 xs1.length c1) 27).alloc _).then_ hbr1; simpa using this
  have la1 := qa11.lt
  have qa21 : Cell2 w1 (W.heap.size + 2) (.int .i64 kd2) (.string nm2) := by have := (Cell2.new ((W.alloc (.cells #[.int .i64 ver0, .slice A0 ss0.length c0] 24)).alloc (.cells #[.int .i64 st1, .slice A1 xs1.length c1] 27)) (.int .i64 kd2) (.string nm2) 29).then_ hbr1; simpa using this
  have la2 := qa21.lt
  have z1 := hb1.size
  clear hbr1 hb1
  by_cases hbig0 : 1048576 < (ss0.length + totSt ss0)
  · rw [left_no hbig0]
    go_wp2_with fail
    go_ret
    exact ⟨rfl, b1⟩
  have hle0 : left 1048576 (ss0.length + totSt ss0) = (q_0 : Int) := by rw [left_ok (by omega)]; omega
  rw [hle0]
  have hq0 := Lib.hid hq_0
  have hqa0 : q_0 + (ss0.length + totSt ss0) ≤ 1048576 := by omega
  clear hq_0 hle0
  have hal0 := Lib.hid (flow_afters (ss := ss0) (by omega))
  obtain ⟨q_1, hq_1⟩ : ∃ q_1 : Nat, q_1 = q_0 - (tot xs1) := ⟨_, rfl⟩
  obtain ⟨pa110, pa111⟩ := id qa11
  go_wp2_with fail
  refine (szRun_any st1 A1 c1 xs1 q_0 _ _ (hx1.then_ b1) (by omega)).mono ?_
  rintro e w2 ⟨rfl, hbr2⟩
  have hb2 := hbr2
  have qa02 := qa01.then_ hb2
  have qa12 := qa11.then_ hb2
  have qa22 := qa21.then_ hb2
  have b2 := bthen b1 hb2
  have z2 := hb2.size
  clear qa01 qa11 qa21 b1 hbr2 hb2 pa110 pa111
  by_cases hbig1 : q_0 < (tot xs1)
  · rw [left_no hbig1]
    go_wp2_with fail
    go_ret
    exact ⟨rfl, b2⟩
  have hle1 : left q_0 (tot xs1) = (q_1 : Int) := by rw [left_ok (by omega)]; omega
  rw [hle1]
  have hq1 := Lib.hid hq_1
  have hqa1 : q_1 + (tot xs1) ≤ q_0 := by omega
  clear hq_1 hle1
  obtain ⟨q_2, hq_2⟩ : ∃ q_2 : Nat, q_2 = q_1 - nm2.size := ⟨_, rfl⟩
  obtain ⟨pa220, pa221⟩ := id qa22
  go_wp2_with fail
  refine (szEvent_any kd2 nm2 q_1 _ hx2 (by omega)).mono ?_
  rintro e w3 ⟨rfl, hbr3⟩
  have hb3 := hbr3
  have qa03 := qa02.then_ hb3
  have qa13 := qa12.then_ hb3
  have qa23 := qa22.then_ hb3
  have b3 := bthen b2 hb3
  have z3 := hb3.size
  clear qa02 qa12 qa22 b2 hbr3 hb3 pa220 pa221
  by_cases hbig2 : q_1 < nm2.size
  · rw [left_no hbig2]
    go_wp2_with fail
    go_ret
    exact ⟨rfl, b3⟩
  have hle2 : left q_1 nm2.size = (q_2 : Int) := by rw [left_ok (by omega)]; omega
  rw [hle2]
  have hq2 := Lib.hid hq_2
  have hqa2 : q_2 + nm2.size ≤ q_1 := by omega
  clear hq_2 hle2
  have holen : (evDone ver0 ss0 st1 xs1 kd2 nm2).length ≤ 1048577 := by have h1 := do_len ver0 st1 ss0 xs1 nm2; have h2 := fail_len ver0 st1 ss0 xs1 nm2; have h3 := undo_len ver0 st1 ss0 xs1; unfold evDone; (repeat' split) <;> first | omega | simp
  go_upto_region 11 with fail
  go_cut [8, 9] (fun vb vo wx => CutRun w3 (evSt ver0 ss0 st1 xs1 kd2 nm2) (evDone ver0 ss0 st1 xs1 kd2 nm2) (w3.heap.size) vb wx ∧ vo = .bool (evB ver0 ss0 st1 xs1 kd2 nm2))
  case first =>
    have hp3_0 := Below.refl (w3.drew).heap.size (w3.drew)
    have hs3_0 : Below w3.heap.size w3 (w3.drew) := (Below.refl _ _).drew
    have hpA3 : Below (w3.drew).heap.size (w3.drew) (w3.alloc (.cells #[.int .i64 0, .slice none 0 0] 33)).drew := below_drew ((Below.refl _ _).alloc (Nat.le_refl _) _)
    have hsA3 := bthen hs3_0 hpA3
    have bxA3 : RBox (w3.alloc (.cells #[.int .i64 0, .slice none 0 0] 33)).drew (w3.heap.size) (.int .i64 0) (.slice none 0 0) := (RBox.new_at w3 (.int .i64 0) (.slice none 0 0) (by simp)).drew
    have Qa03 : Cell2 (w3.drew) (W.heap.size) (.int .i64 ver0) (.slice A0 ss0.length c0) := ⟨qa03.c0, qa03.c1⟩
    have Qa13 : Cell2 (w3.drew) (W.heap.size + 1) (.int .i64 st1) (.slice A1 xs1.length c1) := ⟨qa13.c0, qa13.c1⟩
    have Qa23 : Cell2 (w3.drew) (W.heap.size + 2) (.int .i64 kd2) (.string nm2) := ⟨qa23.c0, qa23.c1⟩
    have S3_0 := (And.intro (Qa03.then_ hp3_0).c0 (And.intro (Qa03.then_ hp3_0).c1 (And.intro (Qa13.then_ hp3_0).c0 (And.intro (Qa13.then_ hp3_0).c1 (And.intro (Qa23.then_ hp3_0).c0 (Qa23.then_ hp3_0).c1)))))
    have SA3 := (And.intro (Qa03.then_ hpA3).c0 (And.intro (Qa03.then_ hpA3).c1 (And.intro (Qa13.then_ hpA3).c0 (And.intro (Qa13.then_ hpA3).c1 (And.intro (Qa23.then_ hpA3).c0 (Qa23.then_ hpA3).c1)))))
    go_region_held3 (fun w' => w'.cell? ⟨W.heap.size, 0, none⟩ = some (.int .i64 ver0) ∧ w'.cell? ⟨W.heap.size, 1, none⟩ = some (.slice A0 ss0.length c0) ∧ w'.cell? ⟨W.heap.size + 1, 0, none⟩ = some (.int .i64 st1) ∧ w'.cell? ⟨W.heap.size + 1, 1, none⟩ = some (.slice A1 xs1.length c1) ∧ w'.cell? ⟨W.heap.size + 2, 0, none⟩ = some (.int .i64 kd2) ∧ w'.cell? ⟨W.heap.size + 2, 1, none⟩ = some (.string nm2))
      (first | exact S3_4 | exact S3_3 | exact S3_2 | exact S3_1 | exact S3_0 | exact SA3 | exact (And.intro (cell_alR S3_4.1 _) (And.intro (cell_alR S3_4.2.1 _) (And.intro (cell_alR S3_4.2.2.1 _) (And.intro (cell_alR S3_4.2.2.2.1 _) (And.intro (cell_alR S3_4.2.2.2.2.1 _) (cell_alR S3_4.2.2.2.2.2 _)))))) | exact (And.intro (cell_alR S3_3.1 _) (And.intro (cell_alR S3_3.2.1 _) (And.intro (cell_alR S3_3.2.2.1 _) (And.intro (cell_alR S3_3.2.2.2.1 _) (And.intro (cell_alR S3_3.2.2.2.2.1 _) (cell_alR S3_3.2.2.2.2.2 _)))))) | exact (And.intro (cell_alR S3_2.1 _) (And.intro (cell_alR S3_2.2.1 _) (And.intro (cell_alR S3_2.2.2.1 _) (And.intro (cell_alR S3_2.2.2.2.1 _) (And.intro (cell_alR S3_2.2.2.2.2.1 _) (cell_alR S3_2.2.2.2.2.2 _)))))) | exact (And.intro (cell_alR S3_1.1 _) (And.intro (cell_alR S3_1.2.1 _) (And.intro (cell_alR S3_1.2.2.1 _) (And.intro (cell_alR S3_1.2.2.2.1 _) (And.intro (cell_alR S3_1.2.2.2.2.1 _) (cell_alR S3_1.2.2.2.2.2 _)))))) | exact (And.intro (cell_alR S3_0.1 _) (And.intro (cell_alR S3_0.2.1 _) (And.intro (cell_alR S3_0.2.2.1 _) (And.intro (cell_alR S3_0.2.2.2.1 _) (And.intro (cell_alR S3_0.2.2.2.2.1 _) (cell_alR S3_0.2.2.2.2.2 _)))))) | exact (And.intro (cell_stR (blk_ne Qa03.lt bz) (cell_stR (blk_ne Qa03.lt bz) S3_4.1)) (And.intro (cell_stR (blk_ne Qa03.lt bz) (cell_stR (blk_ne Qa03.lt bz) S3_4.2.1)) (And.intro (cell_stR (blk_ne Qa13.lt bz) (cell_stR (blk_ne Qa13.lt bz) S3_4.2.2.1)) (And.intro (cell_stR (blk_ne Qa13.lt bz) (cell_stR (blk_ne Qa13.lt bz) S3_4.2.2.2.1)) (And.intro (cell_stR (blk_ne Qa23.lt bz) (cell_stR (blk_ne Qa23.lt bz) S3_4.2.2.2.2.1)) (cell_stR (blk_ne Qa23.lt bz) (cell_stR (blk_ne Qa23.lt bz) S3_4.2.2.2.2.2))))))) | exact (And.intro (cell_alR S3_4.1 _) (And.intro (cell_alR S3_4.2.1 _) (And.intro (cell_alR S3_4.2.2.1 _) (And.intro (cell_alR S3_4.2.2.2.1 _) (And.intro (cell_alR S3_4.2.2.2.2.1 _) (cell_alR S3_4.2.2.2.2.2 _)))))))
      (first
        | (go_at_call 17; have bx0 := bx; (with_reducible refine (toFlow_any ver0 A0 c0 ss0 _ _ (hx0.then_ (bthen b3 hs3_0)) (by omega) hal0.out).mono ?_); rintro e wq3_1 ⟨ARu0, cRu0, rfl, hoRu0, hbq3_1⟩; have hp3_1 := bthen hp3_0 hbq3_1; have hs3_1 := bthen hs3_0 hp3_1; have hk3_1 := Below.refl wq3_1.heap.size wq3_1; have bl := bx0.lt; have bx := bx0.then_ hbq3_1; have S3_1 := (And.intro (Qa03.then_ hp3_1).c0 (And.intro (Qa03.then_ hp3_1).c1 (And.intro (Qa13.then_ hp3_1).c0 (And.intro (Qa13.then_ hp3_1).c1 (And.intro (Qa23.then_ hp3_1).c0 (Qa23.then_ hp3_1).c1))))))
        | (go_at_call 17; have hsX := hsA3; have hpX := hpA3; have bx0 := bxA3; have bz : (w3.drew).heap.size ≤ w3.heap.size := Nat.le_refl _; (with_reducible refine (toFlow_any ver0 A0 c0 ss0 _ _ (hx0.then_ (bthen b3 hsX)) (by omega) hal0.out).mono ?_); rintro e wq3_1 ⟨ARu0, cRu0, rfl, hoRu0, hbq3_1⟩; have hp3_1 := bthen hpX hbq3_1; have hs3_1 := bthen hs3_0 hp3_1; have hk3_1 := Below.refl wq3_1.heap.size wq3_1; have bl := bx0.lt; have bx := bx0.then_ hbq3_1; have S3_1 := (And.intro (Qa03.then_ hp3_1).c0 (And.intro (Qa03.then_ hp3_1).c1 (And.intro (Qa13.then_ hp3_1).c0 (And.intro (Qa13.then_ hp3_1).c1 (And.intro (Qa23.then_ hp3_1).c0 (Qa23.then_ hp3_1).c1))))))
        | (go_at_call 17; (with_reducible refine (toFlow_any ver0 A0 c0 ss0 _ _ (hx0.then_ (bthen b3 hs3_0)) (by omega) hal0.out).mono ?_); rintro e wq3_1 ⟨ARu0, cRu0, rfl, hoRu0, hbq3_1⟩; have hp3_1 := bthen hp3_0 hbq3_1; have hs3_1 := bthen hs3_0 hp3_1; have hk3_1 := Below.refl wq3_1.heap.size wq3_1; have S3_1 := (And.intro (Qa03.then_ hp3_1).c0 (And.intro (Qa03.then_ hp3_1).c1 (And.intro (Qa13.then_ hp3_1).c0 (And.intro (Qa13.then_ hp3_1).c1 (And.intro (Qa23.then_ hp3_1).c0 (Qa23.then_ hp3_1).c1))))))
        | (go_at_call 18; have bx0 := bx; (with_reducible refine (toRun_any st1 A1 c1 xs1 _ _ (hx1.then_ (bthen b3 hs3_1)) (by omega)).mono ?_); rintro e wq3_2 ⟨ARu1, cRu1, rfl, hoRu1, hbq3_2⟩; have hp3_2 := bthen hp3_1 hbq3_2; have hs3_2 := bthen hs3_0 hp3_2; have hk3_1 := bthen hk3_1 hbq3_2; have hk3_2 := Below.refl wq3_2.heap.size wq3_2; have bl := bx0.lt; have bx := bx0.then_ hbq3_2; have S3_2 := (And.intro (Qa03.then_ hp3_2).c0 (And.intro (Qa03.then_ hp3_2).c1 (And.intro (Qa13.then_ hp3_2).c0 (And.intro (Qa13.then_ hp3_2).c1 (And.intro (Qa23.then_ hp3_2).c0 (Qa23.then_ hp3_2).c1))))))
        | (go_at_call 18; have hsX := hs3_1.alloc hs3_1.size (.cells #[.int .i64 0, .slice none 0 0] 33); have hpX := hp3_1.alloc hp3_1.size (.cells #[.int .i64 0, .slice none 0 0] 33); have bx0 := RBox.new wq3_1 (.int .i64 0) (.slice none 0 0); have bz := hp3_1.size; have hk3_1X := hk3_1.alloc hk3_1.size (.cells #[.int .i64 0, .slice none 0 0] 33); (with_reducible refine (toRun_any st1 A1 c1 xs1 _ _ (hx1.then_ (bthen b3 hsX)) (by omega)).mono ?_); rintro e wq3_2 ⟨ARu1, cRu1, rfl, hoRu1, hbq3_2⟩; have hp3_2 := bthen hpX hbq3_2; have hs3_2 := bthen hs3_0 hp3_2; have hk3_1 := bthen hk3_1X hbq3_2; have hk3_2 := Below.refl wq3_2.heap.size wq3_2; have bl := bx0.lt; have bx := bx0.then_ hbq3_2; have S3_2 := (And.intro (Qa03.then_ hp3_2).c0 (And.intro (Qa03.then_ hp3_2).c1 (And.intro (Qa13.then_ hp3_2).c0 (And.intro (Qa13.then_ hp3_2).c1 (And.intro (Qa23.then_ hp3_2).c0 (Qa23.then_ hp3_2).c1))))))
        | (go_at_call 18; (with_reducible refine (toRun_any st1 A1 c1 xs1 _ _ (hx1.then_ (bthen b3 hs3_1)) (by omega)).mono ?_); rintro e wq3_2 ⟨ARu1, cRu1, rfl, hoRu1, hbq3_2⟩; have hp3_2 := bthen hp3_1 hbq3_2; have hs3_2 := bthen hs3_0 hp3_2; have hk3_1 := bthen hk3_1 hbq3_2; have hk3_2 := Below.refl wq3_2.heap.size wq3_2; have S3_2 := (And.intro (Qa03.then_ hp3_2).c0 (And.intro (Qa03.then_ hp3_2).c1 (And.intro (Qa13.then_ hp3_2).c0 (And.intro (Qa13.then_ hp3_2).c1 (And.intro (Qa23.then_ hp3_2).c0 (Qa23.then_ hp3_2).c1))))))
        | (go_at_call 19; have bx0 := bx; (with_reducible refine (toEvent_any kd2 nm2 _).mono ?_); rintro e wq3_3 ⟨rfl, hbq3_3⟩; have hp3_3 := bthen hp3_2 hbq3_3; have hs3_3 := bthen hs3_0 hp3_3; have hk3_1 := bthen hk3_1 hbq3_3; have hk3_2 := bthen hk3_2 hbq3_3; have hk3_3 := Below.refl wq3_3.heap.size wq3_3; have bl := bx0.lt; have bx := bx0.then_ hbq3_3; have S3_3 := (And.intro (Qa03.then_ hp3_3).c0 (And.intro (Qa03.then_ hp3_3).c1 (And.intro (Qa13.then_ hp3_3).c0 (And.intro (Qa13.then_ hp3_3).c1 (And.intro (Qa23.then_ hp3_3).c0 (Qa23.then_ hp3_3).c1))))))
        | (go_at_call 19; have hsX := hs3_2.alloc hs3_2.size (.cells #[.int .i64 0, .slice none 0 0] 33); have hpX := hp3_2.alloc hp3_2.size (.cells #[.int .i64 0, .slice none 0 0] 33); have bx0 := RBox.new wq3_2 (.int .i64 0) (.slice none 0 0); have bz := hp3_2.size; have hk3_1X := hk3_1.alloc hk3_1.size (.cells #[.int .i64 0, .slice none 0 0] 33); have hk3_2X := hk3_2.alloc hk3_2.size (.cells #[.int .i64 0, .slice none 0 0] 33); (with_reducible refine (toEvent_any kd2 nm2 _).mono ?_); rintro e wq3_3 ⟨rfl, hbq3_3⟩; have hp3_3 := bthen hpX hbq3_3; have hs3_3 := bthen hs3_0 hp3_3; have hk3_1 := bthen hk3_1X hbq3_3; have hk3_2 := bthen hk3_2X hbq3_3; have hk3_3 := Below.refl wq3_3.heap.size wq3_3; have bl := bx0.lt; have bx := bx0.then_ hbq3_3; have S3_3 := (And.intro (Qa03.then_ hp3_3).c0 (And.intro (Qa03.then_ hp3_3).c1 (And.intro (Qa13.then_ hp3_3).c0 (And.intro (Qa13.then_ hp3_3).c1 (And.intro (Qa23.then_ hp3_3).c0 (Qa23.then_ hp3_3).c1))))))
        | (go_at_call 19; (with_reducible refine (toEvent_any kd2 nm2 _).mono ?_); rintro e wq3_3 ⟨rfl, hbq3_3⟩; have hp3_3 := bthen hp3_2 hbq3_3; have hs3_3 := bthen hs3_0 hp3_3; have hk3_1 := bthen hk3_1 hbq3_3; have hk3_2 := bthen hk3_2 hbq3_3; have hk3_3 := Below.refl wq3_3.heap.size wq3_3; have S3_3 := (And.intro (Qa03.then_ hp3_3).c0 (And.intro (Qa03.then_ hp3_3).c1 (And.intro (Qa13.then_ hp3_3).c0 (And.intro (Qa13.then_ hp3_3).c1 (And.intro (Qa23.then_ hp3_3).c0 (Qa23.then_ hp3_3).c1))))))
        | (go_at_call 16; have bx0 := bx; (with_reducible refine (sEventRun_any ver0 st1 ARu0 ARu1 cRu0 cRu1 ss0 xs1 kd2 nm2 _ _ _ (hoRu0.sts.then_ hk3_1) (hoRu1.strs.then_ hk3_2) (by omega) (by omega)).mono ?_); rintro e w4 ⟨AR, cR, rfl, hoR, hbq3_4⟩; have hp3_4 := bthen hp3_3 hbq3_4; have hk3_1 := bthen hk3_1 hbq3_4; have hk3_2 := bthen hk3_2 hbq3_4; have hk3_3 := bthen hk3_3 hbq3_4; have bl := bx0.lt; have bx := bx0.then_ hbq3_4; have bf := fun i => bx.free i; obtain ⟨bc0, bc1⟩ := bx.cells; have S3_4 := (And.intro (Qa03.then_ hp3_4).c0 (And.intro (Qa03.then_ hp3_4).c1 (And.intro (Qa13.then_ hp3_4).c0 (And.intro (Qa13.then_ hp3_4).c1 (And.intro (Qa23.then_ hp3_4).c0 (Qa23.then_ hp3_4).c1))))))
        | (go_at_call 16; have hsX := hs3_3.alloc hs3_3.size (.cells #[.int .i64 0, .slice none 0 0] 33); have hpX := hp3_3.alloc hp3_3.size (.cells #[.int .i64 0, .slice none 0 0] 33); have bx0 := RBox.new wq3_3 (.int .i64 0) (.slice none 0 0); have bz := hp3_3.size; have hk3_1X := hk3_1.alloc hk3_1.size (.cells #[.int .i64 0, .slice none 0 0] 33); have hk3_2X := hk3_2.alloc hk3_2.size (.cells #[.int .i64 0, .slice none 0 0] 33); have hk3_3X := hk3_3.alloc hk3_3.size (.cells #[.int .i64 0, .slice none 0 0] 33); (with_reducible refine (sEventRun_any ver0 st1 ARu0 ARu1 cRu0 cRu1 ss0 xs1 kd2 nm2 _ _ _ (hoRu0.sts.then_ hk3_1X) (hoRu1.strs.then_ hk3_2X) (by omega) (by omega)).mono ?_); rintro e w4 ⟨AR, cR, rfl, hoR, hbq3_4⟩; have hp3_4 := bthen hpX hbq3_4; have hk3_1 := bthen hk3_1X hbq3_4; have hk3_2 := bthen hk3_2X hbq3_4; have hk3_3 := bthen hk3_3X hbq3_4; have bl := bx0.lt; have bx := bx0.then_ hbq3_4; have bf := fun i => bx.free i; obtain ⟨bc0, bc1⟩ := bx.cells; have S3_4 := (And.intro (Qa03.then_ hp3_4).c0 (And.intro (Qa03.then_ hp3_4).c1 (And.intro (Qa13.then_ hp3_4).c0 (And.intro (Qa13.then_ hp3_4).c1 (And.intro (Qa23.then_ hp3_4).c0 (Qa23.then_ hp3_4).c1))))))
        | (go_at_call 16; (with_reducible refine (sEventRun_any ver0 st1 ARu0 ARu1 cRu0 cRu1 ss0 xs1 kd2 nm2 _ _ _ (hoRu0.sts.then_ hk3_1) (hoRu1.strs.then_ hk3_2) (by omega) (by omega)).mono ?_); rintro e w4 ⟨AR, cR, rfl, hoR, hbq3_4⟩; have hp3_4 := bthen hp3_3 hbq3_4; have hk3_1 := bthen hk3_1 hbq3_4; have hk3_2 := bthen hk3_2 hbq3_4; have hk3_3 := bthen hk3_3 hbq3_4; have S3_4 := (And.intro (Qa03.then_ hp3_4).c0 (And.intro (Qa03.then_ hp3_4).c1 (And.intro (Qa13.then_ hp3_4).c0 (And.intro (Qa13.then_ hp3_4).c1 (And.intro (Qa23.then_ hp3_4).c0 (Qa23.then_ hp3_4).c1)))))))
    all_goals
      go_wp2_with fail
      go_meet
      first
        | exact ⟨cut_early (Below.undrew hp3_4) bx (by first | exact bz | (simp; done) | simpa using bz) (by first | exact bz | (simp; done) | simpa using bz) hoR bl, rfl⟩
        | exact ⟨cut_last (Below.undrew hp3_4) hoR (by have := hp3_3.size; simp at this; omega) (by have := hp3_4.size; simp at this; omega), rfl⟩
  case rest =>
    obtain ⟨w4, rfl⟩ : ∃ w : World, w = wc := ⟨_, rfl⟩
    obtain ⟨⟨bR, AR, cR, rfl, qR4, hβR, lbR, hoR, hnR, hbr4⟩, rfl⟩ := hcut
    have hb4 := hbr4
    have qa04 := qa03.then_ hb4
    have qa14 := qa13.then_ hb4
    have qa24 := qa23.then_ hb4
    have b4 := bthen b3 hb4
    have z4 := hb4.size
    clear qa03 qa13 qa23 b3 hbr4 hb4
    have rR4 := Below.refl w4.heap.size w4
    have hsR := hoR.strs
    obtain ⟨pa040, pa041⟩ := id qa04
    go_wp2_with fail
    (with_reducible refine (toFlow_any ver0 A0 c0 ss0 _ _ (hx0.then_ b4) (by omega) hal0.out).mono ?_)
    rintro e w5 ⟨Ax0, cx0, rfl, hox0, hbr5⟩
    have hb5 := hbr5
    have qa05 := qa04.then_ hb5
    have qa15 := qa14.then_ hb5
    have qa25 := qa24.then_ hb5
    have qR5 := qR4.then_ hb5
    have b5 := bthen b4 hb5
    have rR5 := bthen rR4 hb5
    have z5 := hb5.size
    clear qa04 qa14 qa24 qR4 b4 rR4 hbr5 hb5 pa040 pa041
    have rx05 := Below.refl w5.heap.size w5
    have hsx0 := hox0.sts
    have hobx0 := hox0.base_ (base' := w4.heap.size) (by simp)
    obtain ⟨pa150, pa151⟩ := qa15.alloc (.cells #[.int .i64 ver0, .slice Ax0 ss0.length cx0] 38)
    go_wp2_with fail
    (with_reducible refine (toRun_any st1 A1 c1 xs1 _ _ ((hx1.then_ b5).alloc2 _) (by omega)).mono ?_)
    rintro e w6 ⟨Ax1, cx1, rfl, hox1, hbr6⟩
    have hb6 : Below w5.heap.size w5 w6 := bthen ((Below.refl _ _).alloc (Nat.le_refl _) _) hbr6
    have qa06 := qa05.then_ hb6
    have qa16 := qa15.then_ hb6
    have qa26 := qa25.then_ hb6
    have qR6 := qR5.then_ hb6
    have qx06 := (Cell2.new w5 (.int .i64 ver0) (.slice Ax0 ss0.length cx0) 38).then_ hbr6
    have lx0 := qx06.lt
    have b6 := bthen b5 hb6
    have rR6 := bthen rR5 hb6
    have rx06 := bthen rx05 hb6
    have z6 := hb6.size
    clear qa05 qa15 qa25 qR5 b5 rR5 rx05 hbr6 hb6 pa150 pa151
    have gx16 := hox1.base_ (base' := w5.heap.size + 1) (by simp)
    go_upto_region 14 with fail
    go_cut [12, 13] (fun vb vo wx => CutRun (w6.alloc (.cells #[.int .i64 st1, .slice Ax1 xs1.length cx1] 33)) (evSt ver0 ss0 st1 xs1 kd2 nm2) (evDone ver0 ss0 st1 xs1 kd2 nm2) (w6.heap.size + 1) vb wx ∧ vo = .bool (evB ver0 ss0 st1 xs1 kd2 nm2))
    case first =>
      have hp6_0 := Below.refl ((w6.alloc (.cells #[.int .i64 st1, .slice Ax1 xs1.length cx1] 33)).drew).heap.size ((w6.alloc (.cells #[.int .i64 st1, .slice Ax1 xs1.length cx1] 33)).drew)
      have hs6_0 : Below w6.heap.size w6 ((w6.alloc (.cells #[.int .i64 st1, .slice Ax1 xs1.length cx1] 33)).drew) := ((Below.refl _ _).alloc (Nat.le_refl _) _).drew
      have hpA6 : Below ((w6.alloc (.cells #[.int .i64 st1, .slice Ax1 xs1.length cx1] 33)).drew).heap.size ((w6.alloc (.cells #[.int .i64 st1, .slice Ax1 xs1.length cx1] 33)).drew) ((w6.alloc (.cells #[.int .i64 st1, .slice Ax1 xs1.length cx1] 33)).alloc (.cells #[.int .i64 0, .slice none 0 0] 33)).drew := below_drew ((Below.refl _ _).alloc (Nat.le_refl _) _)
      have hsA6 := bthen hs6_0 hpA6
      have bxA6 : RBox ((w6.alloc (.cells #[.int .i64 st1, .slice Ax1 xs1.length cx1] 33)).alloc (.cells #[.int .i64 0, .slice none 0 0] 33)).drew (w6.heap.size + 1) (.int .i64 0) (.slice none 0 0) := (RBox.new_at (w6.alloc (.cells #[.int .i64 st1, .slice Ax1 xs1.length cx1] 33)) (.int .i64 0) (.slice none 0 0) (by simp)).drew
      have Qa26 : Cell2 ((w6.alloc (.cells #[.int .i64 st1, .slice Ax1 xs1.length cx1] 33)).drew) (W.heap.size + 2) (.int .i64 kd2) (.string nm2) := ⟨(qa26.alloc (.cells #[.int .i64 st1, .slice Ax1 xs1.length cx1] 33)).c0, (qa26.alloc (.cells #[.int .i64 st1, .slice Ax1 xs1.length cx1] 33)).c1⟩
      have Qx06 : Cell2 ((w6.alloc (.cells #[.int .i64 st1, .slice Ax1 xs1.length cx1] 33)).drew) (w5.heap.size) (.int .i64 ver0) (.slice Ax0 ss0.length cx0) := ⟨(qx06.alloc (.cells #[.int .i64 st1, .slice Ax1 xs1.length cx1] 33)).c0, (qx06.alloc (.cells #[.int .i64 st1, .slice Ax1 xs1.length cx1] 33)).c1⟩
      have Qx16 : Cell2 ((w6.alloc (.cells #[.int .i64 st1, .slice Ax1 xs1.length cx1] 33)).drew) (w6.heap.size) (.int .i64 st1) (.slice Ax1 xs1.length cx1) := ⟨(Cell2.new w6 (.int .i64 st1) (.slice Ax1 xs1.length cx1) 33).c0, (Cell2.new w6 (.int .i64 st1) (.slice Ax1 xs1.length cx1) 33).c1⟩
      have S6_0 := (And.intro (Qa26.then_ hp6_0).c0 (And.intro (Qa26.then_ hp6_0).c1 (And.intro (Qx06.then_ hp6_0).c0 (And.intro (Qx06.then_ hp6_0).c1 (And.intro (Qx16.then_ hp6_0).c0 (Qx16.then_ hp6_0).c1)))))
      have SA6 := (And.intro (Qa26.then_ hpA6).c0 (And.intro (Qa26.then_ hpA6).c1 (And.intro (Qx06.then_ hpA6).c0 (And.intro (Qx06.then_ hpA6).c1 (And.intro (Qx16.then_ hpA6).c0 (Qx16.then_ hpA6).c1)))))
      go_region_held3 (fun w' => w'.cell? ⟨W.heap.size + 2, 0, none⟩ = some (.int .i64 kd2) ∧ w'.cell? ⟨W.heap.size + 2, 1, none⟩ = some (.string nm2) ∧ w'.cell? ⟨w5.heap.size, 0, none⟩ = some (.int .i64 ver0) ∧ w'.cell? ⟨w5.heap.size, 1, none⟩ = some (.slice Ax0 ss0.length cx0) ∧ w'.cell? ⟨w6.heap.size, 0, none⟩ = some (.int .i64 st1) ∧ w'.cell? ⟨w6.heap.size, 1, none⟩ = some (.slice Ax1 xs1.length cx1))
        (first | exact S6_2 | exact S6_1 | exact S6_0 | exact SA6 | exact (And.intro (cell_alR S6_2.1 _) (And.intro (cell_alR S6_2.2.1 _) (And.intro (cell_alR S6_2.2.2.1 _) (And.intro (cell_alR S6_2.2.2.2.1 _) (And.intro (cell_alR S6_2.2.2.2.2.1 _) (cell_alR S6_2.2.2.2.2.2 _)))))) | exact (And.intro (cell_alR S6_1.1 _) (And.intro (cell_alR S6_1.2.1 _) (And.intro (cell_alR S6_1.2.2.1 _) (And.intro (cell_alR S6_1.2.2.2.1 _) (And.intro (cell_alR S6_1.2.2.2.2.1 _) (cell_alR S6_1.2.2.2.2.2 _)))))) | exact (And.intro (cell_alR S6_0.1 _) (And.intro (cell_alR S6_0.2.1 _) (And.intro (cell_alR S6_0.2.2.1 _) (And.intro (cell_alR S6_0.2.2.2.1 _) (And.intro (cell_alR S6_0.2.2.2.2.1 _) (cell_alR S6_0.2.2.2.2.2 _)))))) | exact (And.intro (cell_stR (blk_ne Qa26.lt bz) (cell_stR (blk_ne Qa26.lt bz) S6_2.1)) (And.intro (cell_stR (blk_ne Qa26.lt bz) (cell_stR (blk_ne Qa26.lt bz) S6_2.2.1)) (And.intro (cell_stR (blk_ne Qx06.lt bz) (cell_stR (blk_ne Qx06.lt bz) S6_2.2.2.1)) (And.intro (cell_stR (blk_ne Qx06.lt bz) (cell_stR (blk_ne Qx06.lt bz) S6_2.2.2.2.1)) (And.intro (cell_stR (blk_ne Qx16.lt bz) (cell_stR (blk_ne Qx16.lt bz) S6_2.2.2.2.2.1)) (cell_stR (blk_ne Qx16.lt bz) (cell_stR (blk_ne Qx16.lt bz) S6_2.2.2.2.2.2))))))) | exact (And.intro (cell_alR S6_2.1 _) (And.intro (cell_alR S6_2.2.1 _) (And.intro (cell_alR S6_2.2.2.1 _) (And.intro (cell_alR S6_2.2.2.2.1 _) (And.intro (cell_alR S6_2.2.2.2.2.1 _) (cell_alR S6_2.2.2.2.2.2 _)))))))
        (first
          | (go_at_call 19; have bx0 := bx; (with_reducible refine (toEvent_any kd2 nm2 _).mono ?_); rintro e wq6_1 ⟨rfl, hbq6_1⟩; have hp6_1 := bthen hp6_0 hbq6_1; have hs6_1 := bthen hs6_0 hp6_1; have hk6_1 := Below.refl wq6_1.heap.size wq6_1; have bl := bx0.lt; have bx := bx0.then_ hbq6_1; have S6_1 := (And.intro (Qa26.then_ hp6_1).c0 (And.intro (Qa26.then_ hp6_1).c1 (And.intro (Qx06.then_ hp6_1).c0 (And.intro (Qx06.then_ hp6_1).c1 (And.intro (Qx16.then_ hp6_1).c0 (Qx16.then_ hp6_1).c1))))))
          | (go_at_call 19; have hsX := hsA6; have hpX := hpA6; have bx0 := bxA6; have bz : ((w6.alloc (.cells #[.int .i64 st1, .slice Ax1 xs1.length cx1] 33)).drew).heap.size ≤ w6.heap.size + 1 := (by show ((w6.alloc (.cells #[.int .i64 st1, .slice Ax1 xs1.length cx1] 33))).heap.size ≤ _; simp); (with_reducible refine (toEvent_any kd2 nm2 _).mono ?_); rintro e wq6_1 ⟨rfl, hbq6_1⟩; have hp6_1 := bthen hpX hbq6_1; have hs6_1 := bthen hs6_0 hp6_1; have hk6_1 := Below.refl wq6_1.heap.size wq6_1; have bl := bx0.lt; have bx := bx0.then_ hbq6_1; have S6_1 := (And.intro (Qa26.then_ hp6_1).c0 (And.intro (Qa26.then_ hp6_1).c1 (And.intro (Qx06.then_ hp6_1).c0 (And.intro (Qx06.then_ hp6_1).c1 (And.intro (Qx16.then_ hp6_1).c0 (Qx16.then_ hp6_1).c1))))))
          | (go_at_call 19; (with_reducible refine (toEvent_any kd2 nm2 _).mono ?_); rintro e wq6_1 ⟨rfl, hbq6_1⟩; have hp6_1 := bthen hp6_0 hbq6_1; have hs6_1 := bthen hs6_0 hp6_1; have hk6_1 := Below.refl wq6_1.heap.size wq6_1; have S6_1 := (And.intro (Qa26.then_ hp6_1).c0 (And.intro (Qa26.then_ hp6_1).c1 (And.intro (Qx06.then_ hp6_1).c0 (And.intro (Qx06.then_ hp6_1).c1 (And.intro (Qx16.then_ hp6_1).c0 (Qx16.then_ hp6_1).c1))))))
          | (go_at_call 20; have bx0 := bx; (with_reducible refine (iEventRun_any ver0 st1 Ax0 Ax1 cx0 cx1 ss0 xs1 kd2 nm2 _ _ _ ((hsx0.then_ rx06).then_ hs6_1) (gx16.strs.then_ hs6_1) (by omega) (by omega)).mono ?_); rintro e w7 ⟨AG, cG, rfl, hoG, hbq6_2⟩; have hp6_2 := bthen hp6_1 hbq6_2; have hk6_1 := bthen hk6_1 hbq6_2; have bl := bx0.lt; have bx := bx0.then_ hbq6_2; have bf := fun i => bx.free i; obtain ⟨bc0, bc1⟩ := bx.cells; have S6_2 := (And.intro (Qa26.then_ hp6_2).c0 (And.intro (Qa26.then_ hp6_2).c1 (And.intro (Qx06.then_ hp6_2).c0 (And.intro (Qx06.then_ hp6_2).c1 (And.intro (Qx16.then_ hp6_2).c0 (Qx16.then_ hp6_2).c1))))))
          | (go_at_call 20; have hsX := hs6_1.alloc hs6_1.size (.cells #[.int .i64 0, .slice none 0 0] 33); have hpX := hp6_1.alloc hp6_1.size (.cells #[.int .i64 0, .slice none 0 0] 33); have bx0 := RBox.new wq6_1 (.int .i64 0) (.slice none 0 0); have bz := hp6_1.size; have hk6_1X := hk6_1.alloc hk6_1.size (.cells #[.int .i64 0, .slice none 0 0] 33); (with_reducible refine (iEventRun_any ver0 st1 Ax0 Ax1 cx0 cx1 ss0 xs1 kd2 nm2 _ _ _ ((hsx0.then_ rx06).then_ hsX) (gx16.strs.then_ hsX) (by omega) (by omega)).mono ?_); rintro e w7 ⟨AG, cG, rfl, hoG, hbq6_2⟩; have hp6_2 := bthen hpX hbq6_2; have hk6_1 := bthen hk6_1X hbq6_2; have bl := bx0.lt; have bx := bx0.then_ hbq6_2; have bf := fun i => bx.free i; obtain ⟨bc0, bc1⟩ := bx.cells; have S6_2 := (And.intro (Qa26.then_ hp6_2).c0 (And.intro (Qa26.then_ hp6_2).c1 (And.intro (Qx06.then_ hp6_2).c0 (And.intro (Qx06.then_ hp6_2).c1 (And.intro (Qx16.then_ hp6_2).c0 (Qx16.then_ hp6_2).c1))))))
          | (go_at_call 20; (with_reducible refine (iEventRun_any ver0 st1 Ax0 Ax1 cx0 cx1 ss0 xs1 kd2 nm2 _ _ _ ((hsx0.then_ rx06).then_ hs6_1) (gx16.strs.then_ hs6_1) (by omega) (by omega)).mono ?_); rintro e w7 ⟨AG, cG, rfl, hoG, hbq6_2⟩; have hp6_2 := bthen hp6_1 hbq6_2; have hk6_1 := bthen hk6_1 hbq6_2; have S6_2 := (And.intro (Qa26.then_ hp6_2).c0 (And.intro (Qa26.then_ hp6_2).c1 (And.intro (Qx06.then_ hp6_2).c0 (And.intro (Qx06.then_ hp6_2).c1 (And.intro (Qx16.then_ hp6_2).c0 (Qx16.then_ hp6_2).c1)))))))
      all_goals
        go_wp2_with fail
        go_meet
        first
          | exact ⟨cut_early (Below.undrew hp6_2) bx (by first | exact bz | (simp; done) | simpa using bz) (by first | exact bz | (simp; done) | simpa using bz) hoG bl, rfl⟩
          | exact ⟨cut_last (Below.undrew hp6_2) hoG (by have := hp6_1.size; simp at this; omega) (by have := hp6_2.size; simp at this; omega), rfl⟩
    case rest =>
      obtain ⟨w7, rfl⟩ : ∃ w : World, w = wc := ⟨_, rfl⟩
      obtain ⟨⟨bG, AG, cG, rfl, qG7, hβG, lbG, hoG, hnG, hbr7⟩, rfl⟩ := hcut
      have hb7 : Below w6.heap.size w6 w7 := bthen ((Below.refl _ _).alloc (Nat.le_refl _) _) hbr7
      have qa07 := qa06.then_ hb7
      have qa17 := qa16.then_ hb7
      have qa27 := qa26.then_ hb7
      have qR7 := qR6.then_ hb7
      have qx07 := qx06.then_ hb7
      have qx17 := (Cell2.new w6 (.int .i64 st1) (.slice Ax1 xs1.length cx1) 33).then_ hbr7
      have lx1 := qx17.lt
      have b7 := bthen b6 hb7
      have rR7 := bthen rR6 hb7
      have rx07 := bthen rx06 hb7
      have gx17 := gx16.below hb7
      have z7 := hb7.size
      clear qa06 qa16 qa26 qR6 qx06 b6 rR6 rx06 gx16 hbr7 hb7
      have gG7 := hoG.base_ (base' := w6.heap.size + 1) (by simp)
      obtain ⟨pG70, pG71⟩ := id qG7
      obtain ⟨pR70, pR71⟩ := id qR7
      go_wp2_with fail
      (with_reducible refine (eqRun_same (evSt ver0 ss0 st1 xs1 kd2 nm2) AG AR cG cR (evDone ver0 ss0 st1 xs1 kd2 nm2) _ _ _ gG7.strs (hsR.then_ rR7)).mono ?_)
      rintro e w8 ⟨rfl, hbr8⟩
      have hb8 := hbr8
      have qa08 := qa07.then_ hb8
      have qa18 := qa17.then_ hb8
      have qa28 := qa27.then_ hb8
      have qR8 := qR7.then_ hb8
      have qx08 := qx07.then_ hb8
      have qx18 := qx17.then_ hb8
      have qG8 := qG7.then_ hb8
      have b8 := bthen b7 hb8
      have rR8 := bthen rR7 hb8
      have rx08 := bthen rx07 hb8
      have gx18 := gx17.below hb8
      have gG8 := gG7.below hb8
      have z8 := hb8.size
      clear qa07 qa17 qa27 qR7 qx07 qx17 qG7 b7 rR7 rx07 gx17 gG7 hbr8 hb8 pG70 pG71 pR70 pR71
      obtain ⟨pa080, pa081⟩ := id qa08
      obtain ⟨px080, px081⟩ := id qx08
      have K8 := Lib.hid (toFlow_any ver0 A0 c0 ss0 w8.drew _ (hx0.then_ b8).drew (by omega) hal0.out)
      go_wp2_with fail
      go_region_held3 (fun w' => w'.cell? ⟨W.heap.size, 0, none⟩ = some (.int .i64 ver0) ∧ w'.cell? ⟨W.heap.size, 1, none⟩ = some (.slice A0 ss0.length c0) ∧ w'.cell? ⟨w5.heap.size, 0, none⟩ = some (.int .i64 ver0) ∧ w'.cell? ⟨w5.heap.size, 1, none⟩ = some (.slice Ax0 ss0.length cx0)) (first | assumption | go_keep)
        (first
          | (go_at_call 17; (with_reducible refine K8.out.mono ?_); rintro e wm8 ⟨Am8, cm8, rfl, hom8, hbu8⟩; have hbm8 := Below.undrew hbu8; have Sm8 := (And.intro (qa08.then_ hbm8).c0 (And.intro (qa08.then_ hbm8).c1 (And.intro (qx08.then_ hbm8).c0 (qx08.then_ hbm8).c1))))
          | (go_at_call 22; (with_reducible refine (eqFlow_same ver0 Ax0 Am8 cx0 cm8 ss0 _ w8.heap.size _ ((hsx0.then_ rx08).then_ hbm8) hom8.sts).mono ?_); rintro e w9 ⟨rfl, hbn8⟩; have Sn8 := (And.intro ((qa08.then_ hbm8).then_ hbn8).c0 (And.intro ((qa08.then_ hbm8).then_ hbn8).c1 (And.intro ((qx08.then_ hbm8).then_ hbn8).c0 ((qx08.then_ hbm8).then_ hbn8).c1)))))
      have hbr9 := bthen hbm8 hbn8
      clear K8 Sm8 Sn8 hbn8 hbm8 hbu8 hom8
      have hb9 := hbr9
      have qa09 := qa08.then_ hb9
      have qa19 := qa18.then_ hb9
      have qa29 := qa28.then_ hb9
      have qR9 := qR8.then_ hb9
      have qx09 := qx08.then_ hb9
      have qx19 := qx18.then_ hb9
      have qG9 := qG8.then_ hb9
      have b9 := bthen b8 hb9
      have rR9 := bthen rR8 hb9
      have rx09 := bthen rx08 hb9
      have gx19 := gx18.below hb9
      have gG9 := gG8.below hb9
      have z9 := hb9.size
      clear qa08 qa18 qa28 qR8 qx08 qx18 qG8 b8 rR8 rx08 gx18 gG8 hbr9 hb9 pa080 pa081 px080 px081
      obtain ⟨pa190, pa191⟩ := id qa19
      obtain ⟨px190, px191⟩ := id qx19
      have K9 := Lib.hid (toRun_any st1 A1 c1 xs1 w9.drew _ (hx1.then_ b9).drew (by omega))
      go_wp2_with fail
      go_region_held3 (fun w' => w'.cell? ⟨W.heap.size + 1, 0, none⟩ = some (.int .i64 st1) ∧ w'.cell? ⟨W.heap.size + 1, 1, none⟩ = some (.slice A1 xs1.length c1) ∧ w'.cell? ⟨w6.heap.size, 0, none⟩ = some (.int .i64 st1) ∧ w'.cell? ⟨w6.heap.size, 1, none⟩ = some (.slice Ax1 xs1.length cx1)) (first | assumption | go_keep)
        (first
          | (go_at_call 18; (with_reducible refine K9.out.mono ?_); rintro e wm9 ⟨Am9, cm9, rfl, hom9, hbu9⟩; have hbm9 := Below.undrew hbu9; have Sm9 := (And.intro (qa19.then_ hbm9).c0 (And.intro (qa19.then_ hbm9).c1 (And.intro (qx19.then_ hbm9).c0 (qx19.then_ hbm9).c1))))
          | (go_at_call 21; (with_reducible refine (eqRun_same st1 Ax1 Am9 cx1 cm9 xs1 _ w9.heap.size _ (gx19.strs.then_ hbm9) hom9.strs).mono ?_); rintro e w10 ⟨rfl, hbn9⟩; have Sn9 := (And.intro ((qa19.then_ hbm9).then_ hbn9).c0 (And.intro ((qa19.then_ hbm9).then_ hbn9).c1 (And.intro ((qx19.then_ hbm9).then_ hbn9).c0 ((qx19.then_ hbm9).then_ hbn9).c1)))))
      have hbr10 := bthen hbm9 hbn9
      clear K9 Sm9 Sn9 hbn9 hbm9 hbu9 hom9
      have hb10 := hbr10
      have qa010 := qa09.then_ hb10
      have qa110 := qa19.then_ hb10
      have qa210 := qa29.then_ hb10
      have qR10 := qR9.then_ hb10
      have qx010 := qx09.then_ hb10
      have qx110 := qx19.then_ hb10
      have qG10 := qG9.then_ hb10
      have b10 := bthen b9 hb10
      have rR10 := bthen rR9 hb10
      have rx010 := bthen rx09 hb10
      have gx110 := gx19.below hb10
      have gG10 := gG9.below hb10
      have z10 := hb10.size
      clear qa09 qa19 qa29 qR9 qx09 qx19 qG9 b9 rR9 rx09 gx19 gG9 hbr10 hb10 pa190 pa191 px190 px191
      obtain ⟨px0100, px0101⟩ := id qx010
      go_wp2_with fail
      (with_reducible refine (markFlow_any ver0 Ax0 cx0 ss0 w5 w10 _ hobx0 rx010 (by omega)).mono ?_)
      rintro e w11 ⟨⟨m11, rfl, hm11, hm11'⟩, ht11⟩
      clear rx010 qx010
      have qa011 := qa010.betw ht11 (by omega)
      have qa111 := qa110.betw ht11 (by omega)
      have qa211 := qa210.betw ht11 (by omega)
      have qR11 := qR10.betw ht11 (by omega)
      have qx111 := qx110.betw ht11 (by omega)
      have qG11 := qG10.betw ht11 (by omega)
      have b11 := b10.trans ((ht11.low (by omega)).mono (by omega))
      have rR11 := rR10.trans ((ht11.low (by omega)).mono (by omega))
      have gx111 := ht11.own gx110 (by omega)
      have gG11 := ht11.own gG10 (by omega)
      have z11 := ht11.size
      clear qa010 qa110 qa210 qR10 qx110 qG10 b10 rR10 gx110 gG10 ht11 px0100 px0101
      obtain ⟨px1110, px1111⟩ := id qx111
      go_wp2_with fail
      (with_reducible refine (markRun_any st1 Ax1 cx1 xs1 m11 _ _ gx111 (by omega) (by omega)).mono ?_)
      rintro e w12 ⟨rfl, gM12, hg12⟩
      have ht12 : Betw (w5.heap.size + 1) (w6.heap.size) w11 w12 := mark_betw hox1 hg12 (by simp)
      clear gM12 hg12 gx111 qx111
      have qa012 := qa011.betw ht12 (by omega)
      have qa112 := qa111.betw ht12 (by omega)
      have qa212 := qa211.betw ht12 (by omega)
      have qR12 := qR11.betw ht12 (by omega)
      have qG12 := qG11.betw ht12 (by omega)
      have b12 := b11.trans ((ht12.low (by omega)).mono (by omega))
      have rR12 := rR11.trans ((ht12.low (by omega)).mono (by omega))
      have gG12 := ht12.own gG11 (by omega)
      have z12 := ht12.size
      clear qa011 qa111 qa211 qR11 qG11 b11 rR11 gG11 ht12 px1110 px1111
      have hk0 : ¬ (m11 : Int) < 0 := by omega
      obtain ⟨pG120, pG121⟩ := id qG12
      obtain ⟨pR120, pR121⟩ := id qR12
      go_wp2_with fail
      (with_reducible refine (eqRun_same (evSt ver0 ss0 st1 xs1 kd2 nm2) AG AR cG cR (evDone ver0 ss0 st1 xs1 kd2 nm2) _ _ _ gG12.strs (hsR.then_ rR12)).mono ?_)
      rintro e w13 ⟨rfl, hbr13⟩
      have hb13 := hbr13
      have qa013 := qa012.then_ hb13
      have qa113 := qa112.then_ hb13
      have qa213 := qa212.then_ hb13
      have qR13 := qR12.then_ hb13
      have qG13 := qG12.then_ hb13
      have b13 := bthen b12 hb13
      have rR13 := bthen rR12 hb13
      have gG13 := gG12.below hb13
      have z13 := hb13.size
      clear qa012 qa112 qa212 qR12 qG12 b12 rR12 gG12 hbr13 hb13 pG120 pG121 pR120 pR121
      obtain ⟨pG130, pG131⟩ := id qG13
      go_wp2_with fail
      (with_reducible refine (markRun_one (evSt ver0 ss0 st1 xs1 kd2 nm2) AG cG (evDone ver0 ss0 st1 xs1 kd2 nm2) _ _ gG13 (by omega)).mono ?_)
      rintro e w14 ⟨rfl, gM14, hg14⟩
      have ht14 : Betw (w6.heap.size + 1) (w7.heap.size) w13 w14 := mark_betw hoG hg14 (by simp)
      clear gG13 pG130 pG131
      have qa014 := qa013.betw ht14 (by omega)
      have qa114 := qa113.betw ht14 (by omega)
      have qa214 := qa213.betw ht14 (by omega)
      have qR14 := qR13.betw ht14 (by omega)
      have qG14 := qG13.grown hg14 hnG
      have b14 := b13.trans ((ht14.low (by omega)).mono (by omega))
      have rR14 := rR13.trans ((ht14.low (by omega)).mono (by omega))
      have z14 := ht14.size
      clear qa013 qa113 qa213 qR13 qG13 hg14 b13 rR13 ht14
      have gG14 := gM14
      clear gM14
      have hge : ¬ ((evDone ver0 ss0 st1 xs1 kd2 nm2).length : Int) + 1 < 0 := by omega
      obtain ⟨pG140, pG141⟩ := id qG14
      go_wp2_with fail
      (with_reducible refine (heldRun_one (evSt ver0 ss0 st1 xs1 kd2 nm2) AG cG (evDone ver0 ss0 st1 xs1 kd2 nm2).length _ _ gG14.strs (by omega)).mono ?_)
      rintro e w15 ⟨rfl, hbr15⟩
      have hb15 := hbr15
      have qa015 := qa014.then_ hb15
      have qa115 := qa114.then_ hb15
      have qa215 := qa214.then_ hb15
      have qR15 := qR14.then_ hb15
      have qG15 := qG14.then_ hb15
      have b15 := bthen b14 hb15
      have rR15 := bthen rR14 hb15
      have gG15 := gG14.below hb15
      have z15 := hb15.size
      clear qa014 qa114 qa214 qR14 qG14 b14 rR14 gG14 hbr15 hb15 pG140 pG141
      go_upto_region 34 with fail
      go_cut [17, 18] (fun vb vo wx => CutRun w15 (evSt ver0 ss0 st1 xs1 kd2 nm2) (evDone ver0 ss0 st1 xs1 kd2 nm2) (w15.heap.size) vb wx ∧ vo = .bool (evB ver0 ss0 st1 xs1 kd2 nm2))
      case first =>
        have hp15_0 := Below.refl (w15.drew).heap.size (w15.drew)
        have hs15_0 : Below w15.heap.size w15 (w15.drew) := (Below.refl _ _).drew
        have hpA15 : Below (w15.drew).heap.size (w15.drew) (w15.alloc (.cells #[.int .i64 0, .slice none 0 0] 33)).drew := below_drew ((Below.refl _ _).alloc (Nat.le_refl _) _)
        have hsA15 := bthen hs15_0 hpA15
        have bxA15 : RBox (w15.alloc (.cells #[.int .i64 0, .slice none 0 0] 33)).drew (w15.heap.size) (.int .i64 0) (.slice none 0 0) := (RBox.new_at w15 (.int .i64 0) (.slice none 0 0) (by simp)).drew
        have Qa015 : Cell2 (w15.drew) (W.heap.size) (.int .i64 ver0) (.slice A0 ss0.length c0) := ⟨qa015.c0, qa015.c1⟩
        have Qa115 : Cell2 (w15.drew) (W.heap.size + 1) (.int .i64 st1) (.slice A1 xs1.length c1) := ⟨qa115.c0, qa115.c1⟩
        have Qa215 : Cell2 (w15.drew) (W.heap.size + 2) (.int .i64 kd2) (.string nm2) := ⟨qa215.c0, qa215.c1⟩
        have S15_0 := (And.intro (Qa015.then_ hp15_0).c0 (And.intro (Qa015.then_ hp15_0).c1 (And.intro (Qa115.then_ hp15_0).c0 (And.intro (Qa115.then_ hp15_0).c1 (And.intro (Qa215.then_ hp15_0).c0 (Qa215.then_ hp15_0).c1)))))
        have SA15 := (And.intro (Qa015.then_ hpA15).c0 (And.intro (Qa015.then_ hpA15).c1 (And.intro (Qa115.then_ hpA15).c0 (And.intro (Qa115.then_ hpA15).c1 (And.intro (Qa215.then_ hpA15).c0 (Qa215.then_ hpA15).c1)))))
        go_region_held3 (fun w' => w'.cell? ⟨W.heap.size, 0, none⟩ = some (.int .i64 ver0) ∧ w'.cell? ⟨W.heap.size, 1, none⟩ = some (.slice A0 ss0.length c0) ∧ w'.cell? ⟨W.heap.size + 1, 0, none⟩ = some (.int .i64 st1) ∧ w'.cell? ⟨W.heap.size + 1, 1, none⟩ = some (.slice A1 xs1.length c1) ∧ w'.cell? ⟨W.heap.size + 2, 0, none⟩ = some (.int .i64 kd2) ∧ w'.cell? ⟨W.heap.size + 2, 1, none⟩ = some (.string nm2))
          (first | exact S15_4 | exact S15_3 | exact S15_2 | exact S15_1 | exact S15_0 | exact SA15 | exact (And.intro (cell_alR S15_4.1 _) (And.intro (cell_alR S15_4.2.1 _) (And.intro (cell_alR S15_4.2.2.1 _) (And.intro (cell_alR S15_4.2.2.2.1 _) (And.intro (cell_alR S15_4.2.2.2.2.1 _) (cell_alR S15_4.2.2.2.2.2 _)))))) | exact (And.intro (cell_alR S15_3.1 _) (And.intro (cell_alR S15_3.2.1 _) (And.intro (cell_alR S15_3.2.2.1 _) (And.intro (cell_alR S15_3.2.2.2.1 _) (And.intro (cell_alR S15_3.2.2.2.2.1 _) (cell_alR S15_3.2.2.2.2.2 _)))))) | exact (And.intro (cell_alR S15_2.1 _) (And.intro (cell_alR S15_2.2.1 _) (And.intro (cell_alR S15_2.2.2.1 _) (And.intro (cell_alR S15_2.2.2.2.1 _) (And.intro (cell_alR S15_2.2.2.2.2.1 _) (cell_alR S15_2.2.2.2.2.2 _)))))) | exact (And.intro (cell_alR S15_1.1 _) (And.intro (cell_alR S15_1.2.1 _) (And.intro (cell_alR S15_1.2.2.1 _) (And.intro (cell_alR S15_1.2.2.2.1 _) (And.intro (cell_alR S15_1.2.2.2.2.1 _) (cell_alR S15_1.2.2.2.2.2 _)))))) | exact (And.intro (cell_alR S15_0.1 _) (And.intro (cell_alR S15_0.2.1 _) (And.intro (cell_alR S15_0.2.2.1 _) (And.intro (cell_alR S15_0.2.2.2.1 _) (And.intro (cell_alR S15_0.2.2.2.2.1 _) (cell_alR S15_0.2.2.2.2.2 _)))))) | exact (And.intro (cell_stR (blk_ne Qa015.lt bz) (cell_stR (blk_ne Qa015.lt bz) S15_4.1)) (And.intro (cell_stR (blk_ne Qa015.lt bz) (cell_stR (blk_ne Qa015.lt bz) S15_4.2.1)) (And.intro (cell_stR (blk_ne Qa115.lt bz) (cell_stR (blk_ne Qa115.lt bz) S15_4.2.2.1)) (And.intro (cell_stR (blk_ne Qa115.lt bz) (cell_stR (blk_ne Qa115.lt bz) S15_4.2.2.2.1)) (And.intro (cell_stR (blk_ne Qa215.lt bz) (cell_stR (blk_ne Qa215.lt bz) S15_4.2.2.2.2.1)) (cell_stR (blk_ne Qa215.lt bz) (cell_stR (blk_ne Qa215.lt bz) S15_4.2.2.2.2.2))))))) | exact (And.intro (cell_alR S15_4.1 _) (And.intro (cell_alR S15_4.2.1 _) (And.intro (cell_alR S15_4.2.2.1 _) (And.intro (cell_alR S15_4.2.2.2.1 _) (And.intro (cell_alR S15_4.2.2.2.2.1 _) (cell_alR S15_4.2.2.2.2.2 _)))))))
          (first
            | (go_at_call 17; have bx0 := bx; (with_reducible refine (toFlow_any ver0 A0 c0 ss0 _ _ (hx0.then_ (bthen b15 hs15_0)) (by omega) hal0.out).mono ?_); rintro e wq15_1 ⟨AHu0, cHu0, rfl, hoHu0, hbq15_1⟩; have hp15_1 := bthen hp15_0 hbq15_1; have hs15_1 := bthen hs15_0 hp15_1; have hk15_1 := Below.refl wq15_1.heap.size wq15_1; have bl := bx0.lt; have bx := bx0.then_ hbq15_1; have S15_1 := (And.intro (Qa015.then_ hp15_1).c0 (And.intro (Qa015.then_ hp15_1).c1 (And.intro (Qa115.then_ hp15_1).c0 (And.intro (Qa115.then_ hp15_1).c1 (And.intro (Qa215.then_ hp15_1).c0 (Qa215.then_ hp15_1).c1))))))
            | (go_at_call 17; have hsX := hsA15; have hpX := hpA15; have bx0 := bxA15; have bz : (w15.drew).heap.size ≤ w15.heap.size := Nat.le_refl _; (with_reducible refine (toFlow_any ver0 A0 c0 ss0 _ _ (hx0.then_ (bthen b15 hsX)) (by omega) hal0.out).mono ?_); rintro e wq15_1 ⟨AHu0, cHu0, rfl, hoHu0, hbq15_1⟩; have hp15_1 := bthen hpX hbq15_1; have hs15_1 := bthen hs15_0 hp15_1; have hk15_1 := Below.refl wq15_1.heap.size wq15_1; have bl := bx0.lt; have bx := bx0.then_ hbq15_1; have S15_1 := (And.intro (Qa015.then_ hp15_1).c0 (And.intro (Qa015.then_ hp15_1).c1 (And.intro (Qa115.then_ hp15_1).c0 (And.intro (Qa115.then_ hp15_1).c1 (And.intro (Qa215.then_ hp15_1).c0 (Qa215.then_ hp15_1).c1))))))
            | (go_at_call 17; (with_reducible refine (toFlow_any ver0 A0 c0 ss0 _ _ (hx0.then_ (bthen b15 hs15_0)) (by omega) hal0.out).mono ?_); rintro e wq15_1 ⟨AHu0, cHu0, rfl, hoHu0, hbq15_1⟩; have hp15_1 := bthen hp15_0 hbq15_1; have hs15_1 := bthen hs15_0 hp15_1; have hk15_1 := Below.refl wq15_1.heap.size wq15_1; have S15_1 := (And.intro (Qa015.then_ hp15_1).c0 (And.intro (Qa015.then_ hp15_1).c1 (And.intro (Qa115.then_ hp15_1).c0 (And.intro (Qa115.then_ hp15_1).c1 (And.intro (Qa215.then_ hp15_1).c0 (Qa215.then_ hp15_1).c1))))))
            | (go_at_call 18; have bx0 := bx; (with_reducible refine (toRun_any st1 A1 c1 xs1 _ _ (hx1.then_ (bthen b15 hs15_1)) (by omega)).mono ?_); rintro e wq15_2 ⟨AHu1, cHu1, rfl, hoHu1, hbq15_2⟩; have hp15_2 := bthen hp15_1 hbq15_2; have hs15_2 := bthen hs15_0 hp15_2; have hk15_1 := bthen hk15_1 hbq15_2; have hk15_2 := Below.refl wq15_2.heap.size wq15_2; have bl := bx0.lt; have bx := bx0.then_ hbq15_2; have S15_2 := (And.intro (Qa015.then_ hp15_2).c0 (And.intro (Qa015.then_ hp15_2).c1 (And.intro (Qa115.then_ hp15_2).c0 (And.intro (Qa115.then_ hp15_2).c1 (And.intro (Qa215.then_ hp15_2).c0 (Qa215.then_ hp15_2).c1))))))
            | (go_at_call 18; have hsX := hs15_1.alloc hs15_1.size (.cells #[.int .i64 0, .slice none 0 0] 33); have hpX := hp15_1.alloc hp15_1.size (.cells #[.int .i64 0, .slice none 0 0] 33); have bx0 := RBox.new wq15_1 (.int .i64 0) (.slice none 0 0); have bz := hp15_1.size; have hk15_1X := hk15_1.alloc hk15_1.size (.cells #[.int .i64 0, .slice none 0 0] 33); (with_reducible refine (toRun_any st1 A1 c1 xs1 _ _ (hx1.then_ (bthen b15 hsX)) (by omega)).mono ?_); rintro e wq15_2 ⟨AHu1, cHu1, rfl, hoHu1, hbq15_2⟩; have hp15_2 := bthen hpX hbq15_2; have hs15_2 := bthen hs15_0 hp15_2; have hk15_1 := bthen hk15_1X hbq15_2; have hk15_2 := Below.refl wq15_2.heap.size wq15_2; have bl := bx0.lt; have bx := bx0.then_ hbq15_2; have S15_2 := (And.intro (Qa015.then_ hp15_2).c0 (And.intro (Qa015.then_ hp15_2).c1 (And.intro (Qa115.then_ hp15_2).c0 (And.intro (Qa115.then_ hp15_2).c1 (And.intro (Qa215.then_ hp15_2).c0 (Qa215.then_ hp15_2).c1))))))
            | (go_at_call 18; (with_reducible refine (toRun_any st1 A1 c1 xs1 _ _ (hx1.then_ (bthen b15 hs15_1)) (by omega)).mono ?_); rintro e wq15_2 ⟨AHu1, cHu1, rfl, hoHu1, hbq15_2⟩; have hp15_2 := bthen hp15_1 hbq15_2; have hs15_2 := bthen hs15_0 hp15_2; have hk15_1 := bthen hk15_1 hbq15_2; have hk15_2 := Below.refl wq15_2.heap.size wq15_2; have S15_2 := (And.intro (Qa015.then_ hp15_2).c0 (And.intro (Qa015.then_ hp15_2).c1 (And.intro (Qa115.then_ hp15_2).c0 (And.intro (Qa115.then_ hp15_2).c1 (And.intro (Qa215.then_ hp15_2).c0 (Qa215.then_ hp15_2).c1))))))
            | (go_at_call 19; have bx0 := bx; (with_reducible refine (toEvent_any kd2 nm2 _).mono ?_); rintro e wq15_3 ⟨rfl, hbq15_3⟩; have hp15_3 := bthen hp15_2 hbq15_3; have hs15_3 := bthen hs15_0 hp15_3; have hk15_1 := bthen hk15_1 hbq15_3; have hk15_2 := bthen hk15_2 hbq15_3; have hk15_3 := Below.refl wq15_3.heap.size wq15_3; have bl := bx0.lt; have bx := bx0.then_ hbq15_3; have S15_3 := (And.intro (Qa015.then_ hp15_3).c0 (And.intro (Qa015.then_ hp15_3).c1 (And.intro (Qa115.then_ hp15_3).c0 (And.intro (Qa115.then_ hp15_3).c1 (And.intro (Qa215.then_ hp15_3).c0 (Qa215.then_ hp15_3).c1))))))
            | (go_at_call 19; have hsX := hs15_2.alloc hs15_2.size (.cells #[.int .i64 0, .slice none 0 0] 33); have hpX := hp15_2.alloc hp15_2.size (.cells #[.int .i64 0, .slice none 0 0] 33); have bx0 := RBox.new wq15_2 (.int .i64 0) (.slice none 0 0); have bz := hp15_2.size; have hk15_1X := hk15_1.alloc hk15_1.size (.cells #[.int .i64 0, .slice none 0 0] 33); have hk15_2X := hk15_2.alloc hk15_2.size (.cells #[.int .i64 0, .slice none 0 0] 33); (with_reducible refine (toEvent_any kd2 nm2 _).mono ?_); rintro e wq15_3 ⟨rfl, hbq15_3⟩; have hp15_3 := bthen hpX hbq15_3; have hs15_3 := bthen hs15_0 hp15_3; have hk15_1 := bthen hk15_1X hbq15_3; have hk15_2 := bthen hk15_2X hbq15_3; have hk15_3 := Below.refl wq15_3.heap.size wq15_3; have bl := bx0.lt; have bx := bx0.then_ hbq15_3; have S15_3 := (And.intro (Qa015.then_ hp15_3).c0 (And.intro (Qa015.then_ hp15_3).c1 (And.intro (Qa115.then_ hp15_3).c0 (And.intro (Qa115.then_ hp15_3).c1 (And.intro (Qa215.then_ hp15_3).c0 (Qa215.then_ hp15_3).c1))))))
            | (go_at_call 19; (with_reducible refine (toEvent_any kd2 nm2 _).mono ?_); rintro e wq15_3 ⟨rfl, hbq15_3⟩; have hp15_3 := bthen hp15_2 hbq15_3; have hs15_3 := bthen hs15_0 hp15_3; have hk15_1 := bthen hk15_1 hbq15_3; have hk15_2 := bthen hk15_2 hbq15_3; have hk15_3 := Below.refl wq15_3.heap.size wq15_3; have S15_3 := (And.intro (Qa015.then_ hp15_3).c0 (And.intro (Qa015.then_ hp15_3).c1 (And.intro (Qa115.then_ hp15_3).c0 (And.intro (Qa115.then_ hp15_3).c1 (And.intro (Qa215.then_ hp15_3).c0 (Qa215.then_ hp15_3).c1))))))
            | (go_at_call 20; have bx0 := bx; (with_reducible refine (iEventRun_any ver0 st1 AHu0 AHu1 cHu0 cHu1 ss0 xs1 kd2 nm2 _ _ _ (hoHu0.sts.then_ hk15_1) (hoHu1.strs.then_ hk15_2) (by omega) (by omega)).mono ?_); rintro e w16 ⟨AH, cH, rfl, hoH, hbq15_4⟩; have hp15_4 := bthen hp15_3 hbq15_4; have hk15_1 := bthen hk15_1 hbq15_4; have hk15_2 := bthen hk15_2 hbq15_4; have hk15_3 := bthen hk15_3 hbq15_4; have bl := bx0.lt; have bx := bx0.then_ hbq15_4; have bf := fun i => bx.free i; obtain ⟨bc0, bc1⟩ := bx.cells; have S15_4 := (And.intro (Qa015.then_ hp15_4).c0 (And.intro (Qa015.then_ hp15_4).c1 (And.intro (Qa115.then_ hp15_4).c0 (And.intro (Qa115.then_ hp15_4).c1 (And.intro (Qa215.then_ hp15_4).c0 (Qa215.then_ hp15_4).c1))))))
            | (go_at_call 20; have hsX := hs15_3.alloc hs15_3.size (.cells #[.int .i64 0, .slice none 0 0] 33); have hpX := hp15_3.alloc hp15_3.size (.cells #[.int .i64 0, .slice none 0 0] 33); have bx0 := RBox.new wq15_3 (.int .i64 0) (.slice none 0 0); have bz := hp15_3.size; have hk15_1X := hk15_1.alloc hk15_1.size (.cells #[.int .i64 0, .slice none 0 0] 33); have hk15_2X := hk15_2.alloc hk15_2.size (.cells #[.int .i64 0, .slice none 0 0] 33); have hk15_3X := hk15_3.alloc hk15_3.size (.cells #[.int .i64 0, .slice none 0 0] 33); (with_reducible refine (iEventRun_any ver0 st1 AHu0 AHu1 cHu0 cHu1 ss0 xs1 kd2 nm2 _ _ _ (hoHu0.sts.then_ hk15_1X) (hoHu1.strs.then_ hk15_2X) (by omega) (by omega)).mono ?_); rintro e w16 ⟨AH, cH, rfl, hoH, hbq15_4⟩; have hp15_4 := bthen hpX hbq15_4; have hk15_1 := bthen hk15_1X hbq15_4; have hk15_2 := bthen hk15_2X hbq15_4; have hk15_3 := bthen hk15_3X hbq15_4; have bl := bx0.lt; have bx := bx0.then_ hbq15_4; have bf := fun i => bx.free i; obtain ⟨bc0, bc1⟩ := bx.cells; have S15_4 := (And.intro (Qa015.then_ hp15_4).c0 (And.intro (Qa015.then_ hp15_4).c1 (And.intro (Qa115.then_ hp15_4).c0 (And.intro (Qa115.then_ hp15_4).c1 (And.intro (Qa215.then_ hp15_4).c0 (Qa215.then_ hp15_4).c1))))))
            | (go_at_call 20; (with_reducible refine (iEventRun_any ver0 st1 AHu0 AHu1 cHu0 cHu1 ss0 xs1 kd2 nm2 _ _ _ (hoHu0.sts.then_ hk15_1) (hoHu1.strs.then_ hk15_2) (by omega) (by omega)).mono ?_); rintro e w16 ⟨AH, cH, rfl, hoH, hbq15_4⟩; have hp15_4 := bthen hp15_3 hbq15_4; have hk15_1 := bthen hk15_1 hbq15_4; have hk15_2 := bthen hk15_2 hbq15_4; have hk15_3 := bthen hk15_3 hbq15_4; have S15_4 := (And.intro (Qa015.then_ hp15_4).c0 (And.intro (Qa015.then_ hp15_4).c1 (And.intro (Qa115.then_ hp15_4).c0 (And.intro (Qa115.then_ hp15_4).c1 (And.intro (Qa215.then_ hp15_4).c0 (Qa215.then_ hp15_4).c1)))))))
        all_goals
          go_wp2_with fail
          go_meet
          first
            | exact ⟨cut_early (Below.undrew hp15_4) bx (by first | exact bz | (simp; done) | simpa using bz) (by first | exact bz | (simp; done) | simpa using bz) hoH bl, rfl⟩
            | exact ⟨cut_last (Below.undrew hp15_4) hoH (by have := hp15_3.size; simp at this; omega) (by have := hp15_4.size; simp at this; omega), rfl⟩
      case rest =>
        obtain ⟨w16, rfl⟩ : ∃ w : World, w = wc := ⟨_, rfl⟩
        obtain ⟨⟨bH, AH, cH, rfl, qH16, hβH, lbH, hoH, hnH, hbr16⟩, rfl⟩ := hcut
        have hb16 := hbr16
        have qa016 := qa015.then_ hb16
        have qa116 := qa115.then_ hb16
        have qa216 := qa215.then_ hb16
        have qR16 := qR15.then_ hb16
        have qG16 := qG15.then_ hb16
        have b16 := bthen b15 hb16
        have rR16 := bthen rR15 hb16
        have gG16 := gG15.below hb16
        have z16 := hb16.size
        clear qa015 qa115 qa215 qR15 qG15 b15 rR15 gG15 hbr16 hb16
        have gH16 := hoH.base_ (base' := w15.heap.size) (by simp)
        obtain ⟨pH160, pH161⟩ := id qH16
        obtain ⟨pR160, pR161⟩ := id qR16
        go_wp2_with fail
        (with_reducible refine (eqRun_same (evSt ver0 ss0 st1 xs1 kd2 nm2) AH AR cH cR (evDone ver0 ss0 st1 xs1 kd2 nm2) _ _ _ gH16.strs (hsR.then_ rR16)).mono ?_)
        rintro e w17 ⟨rfl, hbr17⟩
        have hb17 := hbr17
        have qa017 := qa016.then_ hb17
        have qa117 := qa116.then_ hb17
        have qa217 := qa216.then_ hb17
        have qR17 := qR16.then_ hb17
        have qG17 := qG16.then_ hb17
        have qH17 := qH16.then_ hb17
        have b17 := bthen b16 hb17
        have rR17 := bthen rR16 hb17
        have gG17 := gG16.below hb17
        have gH17 := gH16.below hb17
        have z17 := hb17.size
        clear qa016 qa116 qa216 qR16 qG16 qH16 b16 rR16 gG16 gH16 hbr17 hb17 pH160 pH161 pR160 pR161
        obtain ⟨pG170, pG171⟩ := id qG17
        go_wp2_with fail
        (with_reducible refine (heldRun_one (evSt ver0 ss0 st1 xs1 kd2 nm2) AG cG (evDone ver0 ss0 st1 xs1 kd2 nm2).length _ _ gG17.strs (by omega)).mono ?_)
        rintro e w18 ⟨rfl, hbr18⟩
        have hb18 := hbr18
        have qa018 := qa017.then_ hb18
        have qa118 := qa117.then_ hb18
        have qa218 := qa217.then_ hb18
        have qR18 := qR17.then_ hb18
        have qG18 := qG17.then_ hb18
        have qH18 := qH17.then_ hb18
        have b18 := bthen b17 hb18
        have rR18 := bthen rR17 hb18
        have gG18 := gG17.below hb18
        have gH18 := gH17.below hb18
        have z18 := hb18.size
        clear qa017 qa117 qa217 qR17 qG17 qH17 b17 rR17 gG17 gH17 hbr18 hb18 pG170 pG171
        go_wp2_with fail
        go_ret
        exact ⟨rfl, b18⟩

set_option maxRecDepth 100000 in
theorem fnExactEventRun_lifted (os : Os) (started : os.Started) (H : Type) (enc : TypeId × Value → H) :
    ReturnsInHanded {} Try.checked os 3 .any (Rows.fnExactEventRunSpec.pre6 enc Try.prog Try.f3 Rows.fnExactEventRunRow.domain false) (Rows.fnExactEventRunSpec.post enc Try.prog Try.f3 false true false false) := by
  refine returnsInHanded_of_change (C := Try.checked) own started (by kernel_rfl) Try.func3
    (ChangeSpec.witness6 (enc := enc) (C := Try.checked) false ⟨#[], #[.agg #[.int .i64 0, .slice none 0 0], .agg #[.int .i64 0, .slice none 0 0], .agg #[.int .i64 0, .string ⟨#[]⟩]], []⟩ 8 (by kernel_rfl) (by kernel_rfl) (by kernel_rfl) (by kernel_rfl)) ?_
  intro W base args ds gs before hval0 hW _ _
  have hval : ∀ (j : Nat) t v, Try.f3.params[j]? = some t → args[j]? = some v → Value.okWide Try.prog W .any base t v := hval0
  obtain ⟨p, q, hA0, hV, _⟩ := id hW
  have hA : DataW.TrodAll enc Try.prog W 0 (fun _ => true) true Try.f3.params.toList args.toList ds p := hA0
  rw [Try.params3] at hA hval
  obtain ⟨v0, v1, v2, d0, d1, d2, p0, p1, p2, rfl, rfl, rfl, h0, h1, h2⟩ := trodAll_three hA
  obtain ⟨rfl, rfl⟩ := trodVars_none hV
  refine (exactEventRun_law W v0 v1 v2 (arg_flow (hval 0 _ v0 rfl rfl) h0) (arg_run (hval 1 _ v1 rfl rfl) h1) (arg_event (hval 2 _ v2 rfl rfl) h2)).mono fun e W' ⟨he, hw⟩ => ?_
  subst he
  exact ⟨_, rfl, law_post laidOut (readable_of (by kernel_rfl)) rfl Try.underlying4 rfl rfl rfl rfl hW hw⟩

theorem fnExactEventRun_holds : Rows.FnExactEventRunSaid :=
  OpenClaim.holds_of_wide 3 Try.f3 rfl rfl rfl rfl rfl rfl rfl ⟨rfl, rfl, rfl, rfl, rfl⟩ rfl rfl rfl rfl rfl (by kernel_rfl) Try.func3 (by kernel_rfl)
    (of_decide_eq_true (by kernel_rfl)) (by unfold Func.isWrapper; rw [if_neg (of_decide_eq_false (by kernel_rfl))]; exact ⟨rfl, rfl⟩)
    (fun os started H enc _ => fnExactEventRun_lifted os started H enc)

end Go.Proofs.Ytaelacpkagcffaa
