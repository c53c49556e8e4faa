/- FnExactRunValid returns true for all arguments. No condition. -/
import Derived.Test.YtfkjcldaclkkaaaFlowArgs
import Derived.Test.YtfkjcldaclkkaaaFlowFns
import Derived.Test.YtfkjcldaclkkaaaMarkFlow
import Derived.Test.YtfkjcldaclkkaaaExactWords
import Derived.Test.YtfkjcldaclkkaaaRunCopies
import Derived.Test.YtfkjcldaclkkaaaRunArgs
import Derived.Test.YtfkjcldaclkkaaaRunLaws
import Derived.Test.YtfkjcldaclkkaaaRunFns
import Derived.Test.YtfkjcldaclkkaaaSpecRunFns
namespace Go.Proofs.Ytfkjcldaclkkaaa
set_option linter.unusedVariables false
set_option maxRecDepth 100000
open Go.ChangeShapes Go.WideShapes Go.ChangeAt Go.RowKit

set_option maxHeartbeats 16000000 in
theorem exactRunValid_law (W : World) (v0 v1 : Value) (h0 : IsFlow W v0) (h1 : IsRun W v1) : Calls Try.prog 11 #[v0, v1] W fun e W' => e = .returned (.bool true) ∧ Below W.heap.size W W' := by
  obtain ⟨ver0, A0, c0, ss0, rfl, hx0⟩ := h0
  have hlen0 := hx0.len
  have hcap0 := hx0.cap
  obtain ⟨st1, A1, c1, xs1, rfl, hx1⟩ := h1
  have hlen1 := hx1.len
  have hcap1 := hx1.cap
  have htot1 := tot_len xs1
  go_enter Try.func11, Try.ntmps11
  have b0 : Below W.heap.size W (((W.alloc (.cells #[.int .i64 ver0, .slice A0 ss0.length c0] 43)).alloc (.cells #[.int .i64 st1, .slice A1 xs1.length c1] 56))) := (((Below.refl _ _).alloc (Nat.le_refl _) _).alloc (by simp) _)
  obtain ⟨q_0, hq_0⟩ : ∃ q_0 : Nat, q_0 = 1048576 - (ss0.length + totSt ss0) := ⟨_, rfl⟩
  go_wp2_with fail
  refine (szFlow_any ver0 A0 c0 ss0 1048576 _ _ ((hx0.alloc2 _).alloc2 _) (by omega)).mono ?_
  rintro e w1 ⟨rfl, hbr1⟩
  have hb1 := bthen b0 hbr1
  have b1 := hb1
  have qa01 := ((Cell2.new W (.int .i64 ver0) (.slice A0 ss0.length c0) 43).alloc _).then_ hbr1
  have la0 := qa01.lt
  have qa11 : Cell2 w1 (W.heap.size + 1) (.int .i64 st1) (.slice A1 xs1.length c1) := by have := (Cell2.new (W.alloc (.cells #[.int .i64 ver0, .slice A0 ss0.length c0] 43)) (.int .i64 st1) (.slice A1 xs1.length c1) 56).then_ hbr1; simpa using this
  have la1 := qa11.lt
  have z1 := hb1.size
  clear hbr1 hb1
  by_cases hbig0 : 1048576 < (ss0.length + totSt ss0)
  · rw [left_no hbig0]
    go_wp2_with fail
    go_ret
    exact ⟨rfl, b1⟩
  have hle0 : left 1048576 (ss0.length + totSt ss0) = (q_0 : Int) := by rw [left_ok (by omega)]; omega
  rw [hle0]
  have hq0 := Lib.hid hq_0
  have hqa0 : q_0 + (ss0.length + totSt ss0) ≤ 1048576 := by omega
  clear hq_0 hle0
  have hal0 := Lib.hid (flow_afters (ss := ss0) (by omega))
  obtain ⟨q_1, hq_1⟩ : ∃ q_1 : Nat, q_1 = q_0 - (tot xs1) := ⟨_, rfl⟩
  obtain ⟨pa110, pa111⟩ := id qa11
  go_wp2_with fail
  refine (szRun_any st1 A1 c1 xs1 q_0 _ _ (hx1.then_ b1) (by omega)).mono ?_
  rintro e w2 ⟨rfl, hbr2⟩
  have hb2 := hbr2
  have qa02 := qa01.then_ hb2
  have qa12 := qa11.then_ hb2
  have b2 := bthen b1 hb2
  have z2 := hb2.size
  clear qa01 qa11 b1 hbr2 hb2 pa110 pa111
  by_cases hbig1 : q_0 < (tot xs1)
  · rw [left_no hbig1]
    go_wp2_with fail
    go_ret
    exact ⟨rfl, b2⟩
  have hle1 : left q_0 (tot xs1) = (q_1 : Int) := by rw [left_ok (by omega)]; omega
  rw [hle1]
  have hq1 := Lib.hid hq_1
  have hqa1 : q_1 + (tot xs1) ≤ q_0 := by omega
  clear hq_1 hle1
  go_wp2_with fail
  have hp2_0 := Below.refl (w2.drew).heap.size (w2.drew)
  have hs2_0 : Below w2.heap.size w2 (w2.drew) := (Below.refl _ _).drew
  have Qa02 : Cell2 (w2.drew) (W.heap.size) (.int .i64 ver0) (.slice A0 ss0.length c0) := ⟨qa02.c0, qa02.c1⟩
  have Qa12 : Cell2 (w2.drew) (W.heap.size + 1) (.int .i64 st1) (.slice A1 xs1.length c1) := ⟨qa12.c0, qa12.c1⟩
  have S2_0 := (And.intro (Qa02.then_ hp2_0).c0 (And.intro (Qa02.then_ hp2_0).c1 (And.intro (Qa12.then_ hp2_0).c0 (Qa12.then_ hp2_0).c1)))
  go_region_held3 (fun w' => w'.cell? ⟨W.heap.size, 0, none⟩ = some (.int .i64 ver0) ∧ w'.cell? ⟨W.heap.size, 1, none⟩ = some (.slice A0 ss0.length c0) ∧ w'.cell? ⟨W.heap.size + 1, 0, none⟩ = some (.int .i64 st1) ∧ w'.cell? ⟨W.heap.size + 1, 1, none⟩ = some (.slice A1 xs1.length c1))
    (first | exact S2_3 | exact S2_2 | exact S2_1 | exact S2_0 | exact (And.intro (cell_alR S2_3.1 _) (And.intro (cell_alR S2_3.2.1 _) (And.intro (cell_alR S2_3.2.2.1 _) (cell_alR S2_3.2.2.2 _)))) | go_keep)
    (first
      | (go_at_call 28; (with_reducible refine (toFlow_any ver0 A0 c0 ss0 _ _ (hx0.then_ (bthen b2 hs2_0)) (by omega) hal0.out).mono ?_); rintro e wq2_1 ⟨ARu0, cRu0, rfl, hoRu0, hbq2_1⟩; have hp2_1 := bthen hp2_0 hbq2_1; have hs2_1 := bthen hs2_0 hp2_1; have S2_1 := (And.intro (Qa02.then_ hp2_1).c0 (And.intro (Qa02.then_ hp2_1).c1 (And.intro (Qa12.then_ hp2_1).c0 (Qa12.then_ hp2_1).c1))))
      | (go_at_call 41; (with_reducible refine (toRun_any st1 A1 c1 xs1 _ _ (hx1.then_ (bthen b2 hs2_1)) (by omega)).mono ?_); rintro e wq2_2 ⟨ARu1, cRu1, rfl, hoRu1, hbq2_2⟩; have hp2_2 := bthen hp2_1 hbq2_2; have hs2_2 := bthen hs2_0 hp2_2; have S2_2 := (And.intro (Qa02.then_ hp2_2).c0 (And.intro (Qa02.then_ hp2_2).c1 (And.intro (Qa12.then_ hp2_2).c0 (Qa12.then_ hp2_2).c1))))
      | (go_at_call 39; (with_reducible refine (sRunValid_any ver0 st1 ARu0 ARu1 cRu0 cRu1 ss0 xs1 _ _ _ (hoRu0.sts.then_ hbq2_2) hoRu1.strs (by omega)).mono ?_); rintro e w3 ⟨rfl, hbq2_3⟩; have hp2_3 := bthen hp2_2 hbq2_3; have S2_3 := (And.intro (Qa02.then_ hp2_3).c0 (And.intro (Qa02.then_ hp2_3).c1 (And.intro (Qa12.then_ hp2_3).c0 (Qa12.then_ hp2_3).c1)))))
  have hbr3 := Below.undrew hp2_3
  clear S2_0 S2_1 S2_2 S2_3 hp2_0 hp2_1 hp2_2 hp2_3 hs2_0 hs2_1 hs2_2 hbq2_1 hbq2_2 hbq2_3 Qa02 Qa12 hoRu0 hoRu1
  have hb3 := hbr3
  have qa03 := qa02.then_ hb3
  have qa13 := qa12.then_ hb3
  have b3 := bthen b2 hb3
  have z3 := hb3.size
  clear qa02 qa12 b2 hbr3 hb3
  obtain ⟨pa030, pa031⟩ := id qa03
  go_wp2_with fail
  (with_reducible refine (toFlow_any ver0 A0 c0 ss0 _ _ (hx0.then_ b3) (by omega) hal0.out).mono ?_)
  rintro e w4 ⟨Ax0, cx0, rfl, hox0, hbr4⟩
  have hb4 := hbr4
  have qa04 := qa03.then_ hb4
  have qa14 := qa13.then_ hb4
  have b4 := bthen b3 hb4
  have z4 := hb4.size
  clear qa03 qa13 b3 hbr4 hb4 pa030 pa031
  have rx04 := Below.refl w4.heap.size w4
  have hsx0 := hox0.sts
  have hobx0 := hox0.base_ (base' := w3.heap.size) (by simp)
  obtain ⟨pa140, pa141⟩ := qa14.alloc (.cells #[.int .i64 ver0, .slice Ax0 ss0.length cx0] 25)
  go_wp2_with fail
  (with_reducible refine (toRun_any st1 A1 c1 xs1 _ _ ((hx1.then_ b4).alloc2 _) (by omega)).mono ?_)
  rintro e w5 ⟨Ax1, cx1, rfl, hox1, hbr5⟩
  have hb5 : Below w4.heap.size w4 w5 := bthen ((Below.refl _ _).alloc (Nat.le_refl _) _) hbr5
  have qa05 := qa04.then_ hb5
  have qa15 := qa14.then_ hb5
  have qx05 := (Cell2.new w4 (.int .i64 ver0) (.slice Ax0 ss0.length cx0) 25).then_ hbr5
  have lx0 := qx05.lt
  have b5 := bthen b4 hb5
  have rx05 := bthen rx04 hb5
  have z5 := hb5.size
  clear qa04 qa14 b4 rx04 hbr5 hb5 pa140 pa141
  have gx15 := hox1.base_ (base' := w4.heap.size + 1) (by simp)
  obtain ⟨px050, px051⟩ := qx05.alloc (.cells #[.int .i64 st1, .slice Ax1 xs1.length cx1] 52)
  go_wp2_with fail
  (with_reducible refine (iRunValid_any ver0 st1 Ax0 Ax1 cx0 cx1 ss0 xs1 _ _ _ ((hsx0.then_ rx05).alloc2 _) (gx15.strs.alloc2 _) (by omega)).mono ?_)
  rintro e w6 ⟨rfl, hbr6⟩
  have hb6 : Below w5.heap.size w5 w6 := bthen ((Below.refl _ _).alloc (Nat.le_refl _) _) hbr6
  have qa06 := qa05.then_ hb6
  have qa16 := qa15.then_ hb6
  have qx06 := qx05.then_ hb6
  have qx16 := (Cell2.new w5 (.int .i64 st1) (.slice Ax1 xs1.length cx1) 52).then_ hbr6
  have lx1 := qx16.lt
  have b6 := bthen b5 hb6
  have rx06 := bthen rx05 hb6
  have gx16 := gx15.below hb6
  have z6 := hb6.size
  clear qa05 qa15 qx05 b5 rx05 gx15 hbr6 hb6 px050 px051
  obtain ⟨pa060, pa061⟩ := id qa06
  obtain ⟨px060, px061⟩ := id qx06
  have K6 := Lib.hid (toFlow_any ver0 A0 c0 ss0 w6.drew _ (hx0.then_ b6).drew (by omega) hal0.out)
  go_wp2_with fail
  go_region_held3 (fun w' => w'.cell? ⟨W.heap.size, 0, none⟩ = some (.int .i64 ver0) ∧ w'.cell? ⟨W.heap.size, 1, none⟩ = some (.slice A0 ss0.length c0) ∧ w'.cell? ⟨w4.heap.size, 0, none⟩ = some (.int .i64 ver0) ∧ w'.cell? ⟨w4.heap.size, 1, none⟩ = some (.slice Ax0 ss0.length cx0)) (first | assumption | go_keep)
    (first
      | (go_at_call 28; (with_reducible refine K6.out.mono ?_); rintro e wm6 ⟨Am6, cm6, rfl, hom6, hbu6⟩; have hbm6 := Below.undrew hbu6; have Sm6 := (And.intro (qa06.then_ hbm6).c0 (And.intro (qa06.then_ hbm6).c1 (And.intro (qx06.then_ hbm6).c0 (qx06.then_ hbm6).c1))))
      | (go_at_call 30; (with_reducible refine (eqFlow_same ver0 Ax0 Am6 cx0 cm6 ss0 _ w6.heap.size _ ((hsx0.then_ rx06).then_ hbm6) hom6.sts).mono ?_); rintro e w7 ⟨rfl, hbn6⟩; have Sn6 := (And.intro ((qa06.then_ hbm6).then_ hbn6).c0 (And.intro ((qa06.then_ hbm6).then_ hbn6).c1 (And.intro ((qx06.then_ hbm6).then_ hbn6).c0 ((qx06.then_ hbm6).then_ hbn6).c1)))))
  have hbr7 := bthen hbm6 hbn6
  clear K6 Sm6 Sn6 hbn6 hbm6 hbu6 hom6
  have hb7 := hbr7
  have qa07 := qa06.then_ hb7
  have qa17 := qa16.then_ hb7
  have qx07 := qx06.then_ hb7
  have qx17 := qx16.then_ hb7
  have b7 := bthen b6 hb7
  have rx07 := bthen rx06 hb7
  have gx17 := gx16.below hb7
  have z7 := hb7.size
  clear qa06 qa16 qx06 qx16 b6 rx06 gx16 hbr7 hb7 pa060 pa061 px060 px061
  obtain ⟨pa170, pa171⟩ := id qa17
  obtain ⟨px170, px171⟩ := id qx17
  have K7 := Lib.hid (toRun_any st1 A1 c1 xs1 w7.drew _ (hx1.then_ b7).drew (by omega))
  go_wp2_with fail
  go_region_held3 (fun w' => w'.cell? ⟨W.heap.size + 1, 0, none⟩ = some (.int .i64 st1) ∧ w'.cell? ⟨W.heap.size + 1, 1, none⟩ = some (.slice A1 xs1.length c1) ∧ w'.cell? ⟨w5.heap.size, 0, none⟩ = some (.int .i64 st1) ∧ w'.cell? ⟨w5.heap.size, 1, none⟩ = some (.slice Ax1 xs1.length cx1)) (first | assumption | go_keep)
    (first
      | (go_at_call 41; (with_reducible refine K7.out.mono ?_); rintro e wm7 ⟨Am7, cm7, rfl, hom7, hbu7⟩; have hbm7 := Below.undrew hbu7; have Sm7 := (And.intro (qa17.then_ hbm7).c0 (And.intro (qa17.then_ hbm7).c1 (And.intro (qx17.then_ hbm7).c0 (qx17.then_ hbm7).c1))))
      | (go_at_call 42; (with_reducible refine (eqRun_same st1 Ax1 Am7 cx1 cm7 xs1 _ w7.heap.size _ (gx17.strs.then_ hbm7) hom7.strs).mono ?_); rintro e w8 ⟨rfl, hbn7⟩; have Sn7 := (And.intro ((qa17.then_ hbm7).then_ hbn7).c0 (And.intro ((qa17.then_ hbm7).then_ hbn7).c1 (And.intro ((qx17.then_ hbm7).then_ hbn7).c0 ((qx17.then_ hbm7).then_ hbn7).c1)))))
  have hbr8 := bthen hbm7 hbn7
  clear K7 Sm7 Sn7 hbn7 hbm7 hbu7 hom7
  have hb8 := hbr8
  have qa08 := qa07.then_ hb8
  have qa18 := qa17.then_ hb8
  have qx08 := qx07.then_ hb8
  have qx18 := qx17.then_ hb8
  have b8 := bthen b7 hb8
  have rx08 := bthen rx07 hb8
  have gx18 := gx17.below hb8
  have z8 := hb8.size
  clear qa07 qa17 qx07 qx17 b7 rx07 gx17 hbr8 hb8 pa170 pa171 px170 px171
  go_wp2_with fail
  go_ret
  exact ⟨rfl, b8⟩

set_option maxRecDepth 100000 in
theorem fnExactRunValid_lifted (os : Os) (started : os.Started) (H : Type) (enc : TypeId × Value → H) :
    ReturnsInHanded {} Try.checked os 11 .any (Rows.fnExactRunValidSpec.pre6 enc Try.prog Try.f11 Rows.fnExactRunValidRow.domain false) (Rows.fnExactRunValidSpec.post enc Try.prog Try.f11 false true false false) := by
  refine returnsInHanded_of_change (C := Try.checked) own started (by kernel_rfl) Try.func11
    (ChangeSpec.witness6 (enc := enc) (C := Try.checked) false ⟨#[], #[.agg #[.int .i64 0, .slice none 0 0], .agg #[.int .i64 0, .slice none 0 0]], []⟩ 8 (by kernel_rfl) (by kernel_rfl) (by kernel_rfl) (by kernel_rfl)) ?_
  intro W base args ds gs before hval0 hW _ _
  have hval : ∀ (j : Nat) t v, Try.f11.params[j]? = some t → args[j]? = some v → Value.okWide Try.prog W .any base t v := hval0
  obtain ⟨p, q, hA0, hV, _⟩ := id hW
  have hA : DataW.TrodAll enc Try.prog W 0 (fun _ => true) true Try.f11.params.toList args.toList ds p := hA0
  rw [Try.params11] at hA hval
  obtain ⟨v0, v1, d0, d1, p0, p1, rfl, rfl, rfl, h0, h1⟩ := trodAll_two hA
  obtain ⟨rfl, rfl⟩ := trodVars_none hV
  refine (exactRunValid_law W v0 v1 (arg_flow (hval 0 _ v0 rfl rfl) h0) (arg_run (hval 1 _ v1 rfl rfl) h1)).mono fun e W' ⟨he, hw⟩ => ?_
  subst he
  exact ⟨_, rfl, law_post laidOut (readable_of (by kernel_rfl)) rfl Try.underlying4 rfl rfl rfl rfl hW hw⟩

theorem fnExactRunValid_holds : Rows.FnExactRunValidSaid :=
  OpenClaim.holds_of_wide 11 Try.f11 rfl rfl rfl rfl rfl rfl rfl ⟨rfl, rfl, rfl, rfl, rfl⟩ rfl rfl rfl rfl rfl (by kernel_rfl) Try.func11 (by kernel_rfl)
    (of_decide_eq_true (by kernel_rfl)) (by unfold Func.isWrapper; rw [if_neg (of_decide_eq_false (by kernel_rfl))]; exact ⟨rfl, rfl⟩)
    (fun os started H enc _ => fnExactRunValid_lifted os started H enc)

end Go.Proofs.Ytfkjcldaclkkaaa
