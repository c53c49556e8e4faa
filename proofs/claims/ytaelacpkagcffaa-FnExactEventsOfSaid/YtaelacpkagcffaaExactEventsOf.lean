/- FnExactEventsOf returns true for all arguments. No condition. -/
import Derived.Test.YtaelacpkagcffaaFlowArgs
import Derived.Test.YtaelacpkagcffaaFlowFns
import Derived.Test.YtaelacpkagcffaaMarkFlow
import Derived.Test.YtaelacpkagcffaaExactWords
import Derived.Test.YtaelacpkagcffaaRunCopies
import Derived.Test.YtaelacpkagcffaaRunArgs
import Derived.Test.YtaelacpkagcffaaRunLaws
import Derived.Test.YtaelacpkagcffaaRunFns
import Derived.Test.YtaelacpkagcffaaSpecRunFns
import Derived.Test.YtaelacpkagcffaaEvCopies
import Derived.Test.YtaelacpkagcffaaEvMarks
import Derived.Test.YtaelacpkagcffaaEvOf
namespace Go.Proofs.Ytaelacpkagcffaa
set_option linter.unusedVariables false
set_option maxRecDepth 100000
open Go.ChangeShapes Go.WideShapes Go.ChangeAt Go.RowKit

set_option maxHeartbeats 16000000 in
theorem exactEventsOf_law (W : World) (v0 v1 : Value) (h0 : IsFlow W v0) (h1 : IsRun W v1) : Calls Try.prog 9 #[v0, v1] W fun e W' => e = .returned (.bool true) ∧ Below W.heap.size W W' := by
  obtain ⟨ver0, A0, c0, ss0, rfl, hx0⟩ := h0
  have hlen0 := hx0.len
  have hcap0 := hx0.cap
  obtain ⟨st1, A1, c1, xs1, rfl, hx1⟩ := h1
  have hlen1 := hx1.len
  have hcap1 := hx1.cap
  have htot1 := tot_len xs1
  go_enter Try.func9, Try.ntmps9
  have b0 : Below W.heap.size W (((W.alloc (.cells #[.int .i64 ver0, .slice A0 ss0.length c0] 24)).alloc (.cells #[.int .i64 st1, .slice A1 xs1.length c1] 27))) := (((Below.refl _ _).alloc (Nat.le_refl _) _).alloc (by simp) _)
  obtain ⟨q_0, hq_0⟩ : ∃ q_0 : Nat, q_0 = 1048576 - (ss0.length + totSt ss0) := ⟨_, rfl⟩
  go_wp2_with fail
  refine (szFlow_any ver0 A0 c0 ss0 1048576 _ _ ((hx0.alloc2 _).alloc2 _) (by omega)).mono ?_
  rintro e w1 ⟨rfl, hbr1⟩
  have hb1 := bthen b0 hbr1
  have b1 := hb1
  have qa01 := ((Cell2.new W (.int .i64 ver0) (.slice A0 ss0.length c0) 24).alloc _).then_ hbr1
  have la0 := qa01.lt
  have qa11 : Cell2 w1 (W.heap.size + 1) (.int .i64 st1) (.slice A1 xs1.length c1) := by have := (Cell2.new (W.alloc (.cells #[.int .i64 ver0, .slice A0 ss0.length c0] 24)) (.int .i64 st1) (.slice A1 xs1.length c1) 27).then_ hbr1; simpa using this
  have la1 := qa11.lt
  have z1 := hb1.size
  clear hbr1 hb1
  by_cases hbig0 : 1048576 < (ss0.length + totSt ss0)
  · rw [left_no hbig0]
    go_wp2_with fail
    go_ret
    exact ⟨rfl, b1⟩
  have hle0 : left 1048576 (ss0.length + totSt ss0) = (q_0 : Int) := by rw [left_ok (by omega)]; omega
  rw [hle0]
  have hq0 := Lib.hid hq_0
  have hqa0 : q_0 + (ss0.length + totSt ss0) ≤ 1048576 := by omega
  clear hq_0 hle0
  have hal0 := Lib.hid (flow_afters (ss := ss0) (by omega))
  obtain ⟨q_1, hq_1⟩ : ∃ q_1 : Nat, q_1 = q_0 - (tot xs1) := ⟨_, rfl⟩
  obtain ⟨pa110, pa111⟩ := id qa11
  go_wp2_with fail
  refine (szRun_any st1 A1 c1 xs1 q_0 _ _ (hx1.then_ b1) (by omega)).mono ?_
  rintro e w2 ⟨rfl, hbr2⟩
  have hb2 := hbr2
  have qa02 := qa01.then_ hb2
  have qa12 := qa11.then_ hb2
  have b2 := bthen b1 hb2
  have z2 := hb2.size
  clear qa01 qa11 b1 hbr2 hb2 pa110 pa111
  by_cases hbig1 : q_0 < (tot xs1)
  · rw [left_no hbig1]
    go_wp2_with fail
    go_ret
    exact ⟨rfl, b2⟩
  have hle1 : left q_0 (tot xs1) = (q_1 : Int) := by rw [left_ok (by omega)]; omega
  rw [hle1]
  have hq1 := Lib.hid hq_1
  have hqa1 : q_1 + (tot xs1) ≤ q_0 := by omega
  clear hq_1 hle1
  have holen : (evOf ver0 ss0 st1 xs1).length ≤ 9 := evOf_len9 ver0 st1 ss0 xs1
  go_wp2_with fail
  have hp2_0 := Below.refl (w2.drew).heap.size (w2.drew)
  have hs2_0 : Below w2.heap.size w2 (w2.drew) := (Below.refl _ _).drew
  have Qa02 : Cell2 (w2.drew) (W.heap.size) (.int .i64 ver0) (.slice A0 ss0.length c0) := ⟨qa02.c0, qa02.c1⟩
  have Qa12 : Cell2 (w2.drew) (W.heap.size + 1) (.int .i64 st1) (.slice A1 xs1.length c1) := ⟨qa12.c0, qa12.c1⟩
  have S2_0 := (And.intro (Qa02.then_ hp2_0).c0 (And.intro (Qa02.then_ hp2_0).c1 (And.intro (Qa12.then_ hp2_0).c0 (Qa12.then_ hp2_0).c1)))
  go_region_held3 (fun w' => w'.cell? ⟨W.heap.size, 0, none⟩ = some (.int .i64 ver0) ∧ w'.cell? ⟨W.heap.size, 1, none⟩ = some (.slice A0 ss0.length c0) ∧ w'.cell? ⟨W.heap.size + 1, 0, none⟩ = some (.int .i64 st1) ∧ w'.cell? ⟨W.heap.size + 1, 1, none⟩ = some (.slice A1 xs1.length c1))
    (first | exact S2_3 | exact S2_2 | exact S2_1 | exact S2_0 | exact (And.intro (cell_alR S2_3.1 _) (And.intro (cell_alR S2_3.2.1 _) (And.intro (cell_alR S2_3.2.2.1 _) (cell_alR S2_3.2.2.2 _)))) | go_keep)
    (first
      | (go_at_call 17; (with_reducible refine (toFlow_any ver0 A0 c0 ss0 _ _ (hx0.then_ (bthen b2 hs2_0)) (by omega) hal0.out).mono ?_); rintro e wq2_1 ⟨ARu0, cRu0, rfl, hoRu0, hbq2_1⟩; have hp2_1 := bthen hp2_0 hbq2_1; have hs2_1 := bthen hs2_0 hp2_1; have S2_1 := (And.intro (Qa02.then_ hp2_1).c0 (And.intro (Qa02.then_ hp2_1).c1 (And.intro (Qa12.then_ hp2_1).c0 (Qa12.then_ hp2_1).c1))))
      | (go_at_call 18; (with_reducible refine (toRun_any st1 A1 c1 xs1 _ _ (hx1.then_ (bthen b2 hs2_1)) (by omega)).mono ?_); rintro e wq2_2 ⟨ARu1, cRu1, rfl, hoRu1, hbq2_2⟩; have hp2_2 := bthen hp2_1 hbq2_2; have hs2_2 := bthen hs2_0 hp2_2; have S2_2 := (And.intro (Qa02.then_ hp2_2).c0 (And.intro (Qa02.then_ hp2_2).c1 (And.intro (Qa12.then_ hp2_2).c0 (Qa12.then_ hp2_2).c1))))
      | (go_at_call 34; (with_reducible refine (sEventsOf_any ver0 st1 ARu0 ARu1 cRu0 cRu1 ss0 xs1 _ _ _ (hoRu0.sts.then_ hbq2_2) hoRu1.strs (by omega)).mono ?_); rintro e w3 ⟨AR, cR, rfl, hoR, hbq2_3⟩; have hoR := hoR.base_ (base' := w2.heap.size) (by have := hp2_2.size; simp at this; omega); have hp2_3 := bthen hp2_2 hbq2_3; have S2_3 := (And.intro (Qa02.then_ hp2_3).c0 (And.intro (Qa02.then_ hp2_3).c1 (And.intro (Qa12.then_ hp2_3).c0 (Qa12.then_ hp2_3).c1)))))
  have hbr3 := Below.undrew hp2_3
  clear S2_0 S2_1 S2_2 S2_3 hp2_0 hp2_1 hp2_2 hp2_3 hs2_0 hs2_1 hs2_2 hbq2_1 hbq2_2 hbq2_3 Qa02 Qa12 hoRu0 hoRu1
  have hb3 := hbr3
  have qa03 := qa02.then_ hb3
  have qa13 := qa12.then_ hb3
  have b3 := bthen b2 hb3
  have z3 := hb3.size
  clear qa02 qa12 b2 hbr3 hb3
  have rR3 := Below.refl w3.heap.size w3
  have hsR := hoR.evs
  obtain ⟨pa030, pa031⟩ := id qa03
  go_wp2_with fail
  (with_reducible refine (toFlow_any ver0 A0 c0 ss0 _ _ (hx0.then_ b3) (by omega) hal0.out).mono ?_)
  rintro e w4 ⟨Ax0, cx0, rfl, hox0, hbr4⟩
  have hb4 := hbr4
  have qa04 := qa03.then_ hb4
  have qa14 := qa13.then_ hb4
  have b4 := bthen b3 hb4
  have rR4 := bthen rR3 hb4
  have z4 := hb4.size
  clear qa03 qa13 b3 rR3 hbr4 hb4 pa030 pa031
  have rx04 := Below.refl w4.heap.size w4
  have hsx0 := hox0.sts
  have hobx0 := hox0.base_ (base' := w3.heap.size) (by simp)
  obtain ⟨pa140, pa141⟩ := qa14.alloc (.cells #[.int .i64 ver0, .slice Ax0 ss0.length cx0] 38)
  go_wp2_with fail
  (with_reducible refine (toRun_any st1 A1 c1 xs1 _ _ ((hx1.then_ b4).alloc2 _) (by omega)).mono ?_)
  rintro e w5 ⟨Ax1, cx1, rfl, hox1, hbr5⟩
  have hb5 : Below w4.heap.size w4 w5 := bthen ((Below.refl _ _).alloc (Nat.le_refl _) _) hbr5
  have qa05 := qa04.then_ hb5
  have qa15 := qa14.then_ hb5
  have qx05 := (Cell2.new w4 (.int .i64 ver0) (.slice Ax0 ss0.length cx0) 38).then_ hbr5
  have lx0 := qx05.lt
  have b5 := bthen b4 hb5
  have rR5 := bthen rR4 hb5
  have rx05 := bthen rx04 hb5
  have z5 := hb5.size
  clear qa04 qa14 b4 rR4 rx04 hbr5 hb5 pa140 pa141
  have gx15 := hox1.base_ (base' := w4.heap.size + 1) (by simp)
  obtain ⟨px050, px051⟩ := qx05.alloc (.cells #[.int .i64 st1, .slice Ax1 xs1.length cx1] 33)
  go_wp2_with fail
  (with_reducible refine (iEventsOf_any ver0 st1 Ax0 Ax1 cx0 cx1 ss0 xs1 _ _ _ ((hsx0.then_ rx05).alloc2 _) (gx15.strs.alloc2 _) (by omega)).mono ?_)
  rintro e w6 ⟨AG, cG, rfl, hoG, hbr6⟩
  have hb6 : Below w5.heap.size w5 w6 := bthen ((Below.refl _ _).alloc (Nat.le_refl _) _) hbr6
  have qa06 := qa05.then_ hb6
  have qa16 := qa15.then_ hb6
  have qx06 := qx05.then_ hb6
  have qx16 := (Cell2.new w5 (.int .i64 st1) (.slice Ax1 xs1.length cx1) 33).then_ hbr6
  have lx1 := qx16.lt
  have b6 := bthen b5 hb6
  have rR6 := bthen rR5 hb6
  have rx06 := bthen rx05 hb6
  have gx16 := gx15.below hb6
  have z6 := hb6.size
  clear qa05 qa15 qx05 b5 rR5 rx05 gx15 hbr6 hb6 px050 px051
  have gG6 := hoG.base_ (base' := w5.heap.size + 1) (by simp)
  go_wp2_with fail
  (with_reducible refine (eqEventS_same AG AR cG cR (evOf ver0 ss0 st1 xs1) _ _ _ gG6.evs (hsR.then_ rR6)).mono ?_)
  rintro e w7 ⟨rfl, hbr7⟩
  have hb7 := hbr7
  have qa07 := qa06.then_ hb7
  have qa17 := qa16.then_ hb7
  have qx07 := qx06.then_ hb7
  have qx17 := qx16.then_ hb7
  have b7 := bthen b6 hb7
  have rR7 := bthen rR6 hb7
  have rx07 := bthen rx06 hb7
  have gx17 := gx16.below hb7
  have gG7 := gG6.below hb7
  have z7 := hb7.size
  clear qa06 qa16 qx06 qx16 b6 rR6 rx06 gx16 gG6 hbr7 hb7
  obtain ⟨pa070, pa071⟩ := id qa07
  obtain ⟨px070, px071⟩ := id qx07
  have K7 := Lib.hid (toFlow_any ver0 A0 c0 ss0 w7.drew _ (hx0.then_ b7).drew (by omega) hal0.out)
  go_wp2_with fail
  go_region_held3 (fun w' => w'.cell? ⟨W.heap.size, 0, none⟩ = some (.int .i64 ver0) ∧ w'.cell? ⟨W.heap.size, 1, none⟩ = some (.slice A0 ss0.length c0) ∧ w'.cell? ⟨w4.heap.size, 0, none⟩ = some (.int .i64 ver0) ∧ w'.cell? ⟨w4.heap.size, 1, none⟩ = some (.slice Ax0 ss0.length cx0)) (first | assumption | go_keep)
    (first
      | (go_at_call 17; (with_reducible refine K7.out.mono ?_); rintro e wm7 ⟨Am7, cm7, rfl, hom7, hbu7⟩; have hbm7 := Below.undrew hbu7; have Sm7 := (And.intro (qa07.then_ hbm7).c0 (And.intro (qa07.then_ hbm7).c1 (And.intro (qx07.then_ hbm7).c0 (qx07.then_ hbm7).c1))))
      | (go_at_call 22; (with_reducible refine (eqFlow_same ver0 Ax0 Am7 cx0 cm7 ss0 _ w7.heap.size _ ((hsx0.then_ rx07).then_ hbm7) hom7.sts).mono ?_); rintro e w8 ⟨rfl, hbn7⟩; have Sn7 := (And.intro ((qa07.then_ hbm7).then_ hbn7).c0 (And.intro ((qa07.then_ hbm7).then_ hbn7).c1 (And.intro ((qx07.then_ hbm7).then_ hbn7).c0 ((qx07.then_ hbm7).then_ hbn7).c1)))))
  have hbr8 := bthen hbm7 hbn7
  clear K7 Sm7 Sn7 hbn7 hbm7 hbu7 hom7
  have hb8 := hbr8
  have qa08 := qa07.then_ hb8
  have qa18 := qa17.then_ hb8
  have qx08 := qx07.then_ hb8
  have qx18 := qx17.then_ hb8
  have b8 := bthen b7 hb8
  have rR8 := bthen rR7 hb8
  have rx08 := bthen rx07 hb8
  have gx18 := gx17.below hb8
  have gG8 := gG7.below hb8
  have z8 := hb8.size
  clear qa07 qa17 qx07 qx17 b7 rR7 rx07 gx17 gG7 hbr8 hb8 pa070 pa071 px070 px071
  obtain ⟨pa180, pa181⟩ := id qa18
  obtain ⟨px180, px181⟩ := id qx18
  have K8 := Lib.hid (toRun_any st1 A1 c1 xs1 w8.drew _ (hx1.then_ b8).drew (by omega))
  go_wp2_with fail
  go_region_held3 (fun w' => w'.cell? ⟨W.heap.size + 1, 0, none⟩ = some (.int .i64 st1) ∧ w'.cell? ⟨W.heap.size + 1, 1, none⟩ = some (.slice A1 xs1.length c1) ∧ w'.cell? ⟨w5.heap.size, 0, none⟩ = some (.int .i64 st1) ∧ w'.cell? ⟨w5.heap.size, 1, none⟩ = some (.slice Ax1 xs1.length cx1)) (first | assumption | go_keep)
    (first
      | (go_at_call 18; (with_reducible refine K8.out.mono ?_); rintro e wm8 ⟨Am8, cm8, rfl, hom8, hbu8⟩; have hbm8 := Below.undrew hbu8; have Sm8 := (And.intro (qa18.then_ hbm8).c0 (And.intro (qa18.then_ hbm8).c1 (And.intro (qx18.then_ hbm8).c0 (qx18.then_ hbm8).c1))))
      | (go_at_call 21; (with_reducible refine (eqRun_same st1 Ax1 Am8 cx1 cm8 xs1 _ w8.heap.size _ (gx18.strs.then_ hbm8) hom8.strs).mono ?_); rintro e w9 ⟨rfl, hbn8⟩; have Sn8 := (And.intro ((qa18.then_ hbm8).then_ hbn8).c0 (And.intro ((qa18.then_ hbm8).then_ hbn8).c1 (And.intro ((qx18.then_ hbm8).then_ hbn8).c0 ((qx18.then_ hbm8).then_ hbn8).c1)))))
  have hbr9 := bthen hbm8 hbn8
  clear K8 Sm8 Sn8 hbn8 hbm8 hbu8 hom8
  have hb9 := hbr9
  have qa09 := qa08.then_ hb9
  have qa19 := qa18.then_ hb9
  have qx09 := qx08.then_ hb9
  have qx19 := qx18.then_ hb9
  have b9 := bthen b8 hb9
  have rR9 := bthen rR8 hb9
  have rx09 := bthen rx08 hb9
  have gx19 := gx18.below hb9
  have gG9 := gG8.below hb9
  have z9 := hb9.size
  clear qa08 qa18 qx08 qx18 b8 rR8 rx08 gx18 gG8 hbr9 hb9 pa180 pa181 px180 px181
  obtain ⟨px090, px091⟩ := id qx09
  go_wp2_with fail
  (with_reducible refine (markFlow_any ver0 Ax0 cx0 ss0 w4 w9 _ hobx0 rx09 (by omega)).mono ?_)
  rintro e w10 ⟨⟨m10, rfl, hm10, hm10'⟩, ht10⟩
  clear rx09 qx09
  have qa010 := qa09.betw ht10 (by omega)
  have qa110 := qa19.betw ht10 (by omega)
  have qx110 := qx19.betw ht10 (by omega)
  have b10 := b9.trans ((ht10.low (by omega)).mono (by omega))
  have rR10 := rR9.trans ((ht10.low (by omega)).mono (by omega))
  have gx110 := ht10.own gx19 (by omega)
  have gG10 := ht10.ownE gG9 (by omega)
  have z10 := ht10.size
  clear qa09 qa19 qx19 b9 rR9 gx19 gG9 ht10 px090 px091
  obtain ⟨px1100, px1101⟩ := id qx110
  go_wp2_with fail
  (with_reducible refine (markRun_any st1 Ax1 cx1 xs1 m10 _ _ gx110 (by omega) (by omega)).mono ?_)
  rintro e w11 ⟨rfl, gM11, hg11⟩
  have ht11 : Betw (w4.heap.size + 1) (w5.heap.size) w10 w11 := mark_betw hox1 hg11 (by simp)
  clear gM11 hg11 gx110 qx110
  have qa011 := qa010.betw ht11 (by omega)
  have qa111 := qa110.betw ht11 (by omega)
  have b11 := b10.trans ((ht11.low (by omega)).mono (by omega))
  have rR11 := rR10.trans ((ht11.low (by omega)).mono (by omega))
  have gG11 := ht11.ownE gG10 (by omega)
  have z11 := ht11.size
  clear qa010 qa110 b10 rR10 gG10 ht11 px1100 px1101
  have hk0 : ¬ (m10 : Int) < 0 := by omega
  go_wp2_with fail
  (with_reducible refine (eqEventS_same AG AR cG cR (evOf ver0 ss0 st1 xs1) _ _ _ gG11.evs (hsR.then_ rR11)).mono ?_)
  rintro e w12 ⟨rfl, hbr12⟩
  have hb12 := hbr12
  have qa012 := qa011.then_ hb12
  have qa112 := qa111.then_ hb12
  have b12 := bthen b11 hb12
  have rR12 := bthen rR11 hb12
  have gG12 := gG11.below hb12
  have z12 := hb12.size
  clear qa011 qa111 b11 rR11 gG11 hbr12 hb12
  go_wp2_with fail
  (with_reducible refine (markEventS_one AG cG (evOf ver0 ss0 st1 xs1) _ _ gG12 (by omega)).mono ?_)
  rintro e w13 ⟨rfl, gM13, hg13⟩
  have ht13 : Betw (w5.heap.size + 1) (w6.heap.size) w12 w13 := mark_betwE hoG hg13 (by simp)
  clear gG12 hg13
  have qa013 := qa012.betw ht13 (by omega)
  have qa113 := qa112.betw ht13 (by omega)
  have b13 := b12.trans ((ht13.low (by omega)).mono (by omega))
  have rR13 := rR12.trans ((ht13.low (by omega)).mono (by omega))
  have z13 := ht13.size
  clear qa012 qa112 b12 rR12 ht13
  have gG13 := gM13
  clear gM13
  have hge : ¬ 2 * ((evOf ver0 ss0 st1 xs1).length : Int) + 1 < 0 := by omega
  go_wp2_with fail
  (with_reducible refine (heldEventS_one AG cG (evOf ver0 ss0 st1 xs1).length _ _ gG13.evs (by omega)).mono ?_)
  rintro e w14 ⟨rfl, hbr14⟩
  have hb14 := hbr14
  have qa014 := qa013.then_ hb14
  have qa114 := qa113.then_ hb14
  have b14 := bthen b13 hb14
  have rR14 := bthen rR13 hb14
  have gG14 := gG13.below hb14
  have z14 := hb14.size
  clear qa013 qa113 b13 rR13 gG13 hbr14 hb14
  go_wp2_with fail
  have hp14_0 := Below.refl (w14.drew).heap.size (w14.drew)
  have hs14_0 : Below w14.heap.size w14 (w14.drew) := (Below.refl _ _).drew
  have Qa014 : Cell2 (w14.drew) (W.heap.size) (.int .i64 ver0) (.slice A0 ss0.length c0) := ⟨qa014.c0, qa014.c1⟩
  have Qa114 : Cell2 (w14.drew) (W.heap.size + 1) (.int .i64 st1) (.slice A1 xs1.length c1) := ⟨qa114.c0, qa114.c1⟩
  have S14_0 := (And.intro (Qa014.then_ hp14_0).c0 (And.intro (Qa014.then_ hp14_0).c1 (And.intro (Qa114.then_ hp14_0).c0 (Qa114.then_ hp14_0).c1)))
  go_region_held3 (fun w' => w'.cell? ⟨W.heap.size, 0, none⟩ = some (.int .i64 ver0) ∧ w'.cell? ⟨W.heap.size, 1, none⟩ = some (.slice A0 ss0.length c0) ∧ w'.cell? ⟨W.heap.size + 1, 0, none⟩ = some (.int .i64 st1) ∧ w'.cell? ⟨W.heap.size + 1, 1, none⟩ = some (.slice A1 xs1.length c1))
    (first | exact S14_3 | exact S14_2 | exact S14_1 | exact S14_0 | exact (And.intro (cell_alR S14_3.1 _) (And.intro (cell_alR S14_3.2.1 _) (And.intro (cell_alR S14_3.2.2.1 _) (cell_alR S14_3.2.2.2 _)))) | go_keep)
    (first
      | (go_at_call 17; (with_reducible refine (toFlow_any ver0 A0 c0 ss0 _ _ (hx0.then_ (bthen b14 hs14_0)) (by omega) hal0.out).mono ?_); rintro e wq14_1 ⟨AHu0, cHu0, rfl, hoHu0, hbq14_1⟩; have hp14_1 := bthen hp14_0 hbq14_1; have hs14_1 := bthen hs14_0 hp14_1; have S14_1 := (And.intro (Qa014.then_ hp14_1).c0 (And.intro (Qa014.then_ hp14_1).c1 (And.intro (Qa114.then_ hp14_1).c0 (Qa114.then_ hp14_1).c1))))
      | (go_at_call 18; (with_reducible refine (toRun_any st1 A1 c1 xs1 _ _ (hx1.then_ (bthen b14 hs14_1)) (by omega)).mono ?_); rintro e wq14_2 ⟨AHu1, cHu1, rfl, hoHu1, hbq14_2⟩; have hp14_2 := bthen hp14_1 hbq14_2; have hs14_2 := bthen hs14_0 hp14_2; have S14_2 := (And.intro (Qa014.then_ hp14_2).c0 (And.intro (Qa014.then_ hp14_2).c1 (And.intro (Qa114.then_ hp14_2).c0 (Qa114.then_ hp14_2).c1))))
      | (go_at_call 33; (with_reducible refine (iEventsOf_any ver0 st1 AHu0 AHu1 cHu0 cHu1 ss0 xs1 _ _ _ (hoHu0.sts.then_ hbq14_2) hoHu1.strs (by omega)).mono ?_); rintro e w15 ⟨AH, cH, rfl, hoH, hbq14_3⟩; have hoH := hoH.base_ (base' := w14.heap.size) (by have := hp14_2.size; simp at this; omega); have hp14_3 := bthen hp14_2 hbq14_3; have S14_3 := (And.intro (Qa014.then_ hp14_3).c0 (And.intro (Qa014.then_ hp14_3).c1 (And.intro (Qa114.then_ hp14_3).c0 (Qa114.then_ hp14_3).c1)))))
  have hbr15 := Below.undrew hp14_3
  clear S14_0 S14_1 S14_2 S14_3 hp14_0 hp14_1 hp14_2 hp14_3 hs14_0 hs14_1 hs14_2 hbq14_1 hbq14_2 hbq14_3 Qa014 Qa114 hoHu0 hoHu1
  have hb15 := hbr15
  have qa015 := qa014.then_ hb15
  have qa115 := qa114.then_ hb15
  have b15 := bthen b14 hb15
  have rR15 := bthen rR14 hb15
  have gG15 := gG14.below hb15
  have z15 := hb15.size
  clear qa014 qa114 b14 rR14 gG14 hbr15 hb15
  have gH15 := hoH.base_ (base' := w14.heap.size) (by simp)
  go_wp2_with fail
  (with_reducible refine (eqEventS_same AH AR cH cR (evOf ver0 ss0 st1 xs1) _ _ _ gH15.evs (hsR.then_ rR15)).mono ?_)
  rintro e w16 ⟨rfl, hbr16⟩
  have hb16 := hbr16
  have qa016 := qa015.then_ hb16
  have qa116 := qa115.then_ hb16
  have b16 := bthen b15 hb16
  have rR16 := bthen rR15 hb16
  have gG16 := gG15.below hb16
  have gH16 := gH15.below hb16
  have z16 := hb16.size
  clear qa015 qa115 b15 rR15 gG15 gH15 hbr16 hb16
  go_wp2_with fail
  (with_reducible refine (heldEventS_one AG cG (evOf ver0 ss0 st1 xs1).length _ _ gG16.evs (by omega)).mono ?_)
  rintro e w17 ⟨rfl, hbr17⟩
  have hb17 := hbr17
  have qa017 := qa016.then_ hb17
  have qa117 := qa116.then_ hb17
  have b17 := bthen b16 hb17
  have rR17 := bthen rR16 hb17
  have gG17 := gG16.below hb17
  have gH17 := gH16.below hb17
  have z17 := hb17.size
  clear qa016 qa116 b16 rR16 gG16 gH16 hbr17 hb17
  go_wp2_with fail
  go_ret
  exact ⟨rfl, b17⟩

set_option maxRecDepth 100000 in
theorem fnExactEventsOf_lifted (os : Os) (started : os.Started) (H : Type) (enc : TypeId × Value → H) :
    ReturnsInHanded {} Try.checked os 9 .any (Rows.fnExactEventsOfSpec.pre6 enc Try.prog Try.f9 Rows.fnExactEventsOfRow.domain false) (Rows.fnExactEventsOfSpec.post enc Try.prog Try.f9 false true false false) := by
  refine returnsInHanded_of_change (C := Try.checked) own started (by kernel_rfl) Try.func9
    (ChangeSpec.witness6 (enc := enc) (C := Try.checked) false ⟨#[], #[.agg #[.int .i64 0, .slice none 0 0], .agg #[.int .i64 0, .slice none 0 0]], []⟩ 8 (by kernel_rfl) (by kernel_rfl) (by kernel_rfl) (by kernel_rfl)) ?_
  intro W base args ds gs before hval0 hW _ _
  have hval : ∀ (j : Nat) t v, Try.f9.params[j]? = some t → args[j]? = some v → Value.okWide Try.prog W .any base t v := hval0
  obtain ⟨p, q, hA0, hV, _⟩ := id hW
  have hA : DataW.TrodAll enc Try.prog W 0 (fun _ => true) true Try.f9.params.toList args.toList ds p := hA0
  rw [Try.params9] at hA hval
  obtain ⟨v0, v1, d0, d1, p0, p1, rfl, rfl, rfl, h0, h1⟩ := trodAll_two hA
  obtain ⟨rfl, rfl⟩ := trodVars_none hV
  refine (exactEventsOf_law W v0 v1 (arg_flow (hval 0 _ v0 rfl rfl) h0) (arg_run (hval 1 _ v1 rfl rfl) h1)).mono fun e W' ⟨he, hw⟩ => ?_
  subst he
  exact ⟨_, rfl, law_post laidOut (readable_of (by kernel_rfl)) rfl Try.underlying4 rfl rfl rfl rfl hW hw⟩

theorem fnExactEventsOf_holds : Rows.FnExactEventsOfSaid :=
  OpenClaim.holds_of_wide 9 Try.f9 rfl rfl rfl rfl rfl rfl rfl ⟨rfl, rfl, rfl, rfl, rfl⟩ rfl rfl rfl rfl rfl (by kernel_rfl) Try.func9 (by kernel_rfl)
    (of_decide_eq_true (by kernel_rfl)) (by unfold Func.isWrapper; rw [if_neg (of_decide_eq_false (by kernel_rfl))]; exact ⟨rfl, rfl⟩)
    (fun os started H enc _ => fnExactEventsOf_lifted os started H enc)

end Go.Proofs.Ytaelacpkagcffaa
