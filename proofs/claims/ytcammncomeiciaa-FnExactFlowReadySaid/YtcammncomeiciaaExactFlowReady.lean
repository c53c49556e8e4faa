/- FnExactFlowReady returns true for all arguments. No condition. -/
import Derived.Test.YtcammncomeiciaaFlowArgs
import Derived.Test.YtcammncomeiciaaFlowFns
import Derived.Test.YtcammncomeiciaaMarkFlow
import Derived.Test.YtcammncomeiciaaExactWords
namespace Go.Proofs.Ytcammncomeiciaa
set_option linter.unusedVariables false
open Go.ChangeShapes Go.WideShapes Go.ChangeAt Go.RowKit

set_option maxHeartbeats 16000000 in
theorem exactFlowReady_law (W : World) (v0 v1 : Value) (h0 : IsFlow W v0) (h1 : IsStrs W v1) : Calls Try.prog 13 #[v0, v1] W fun e W' => e = .returned (.bool true) ∧ Below W.heap.size W W' := by
  obtain ⟨ver0, A0, c0, ss0, rfl, hx0⟩ := h0
  have hlen0 := hx0.len
  have hcap0 := hx0.cap
  obtain ⟨A1, c1, xs1, rfl, hx1⟩ := h1
  have hlen1 := hx1.len
  have hcap1 := hx1.cap
  have htot1 := tot_len xs1
  go_enter Try.func13, Try.ntmps13
  have b0 : Below W.heap.size W ((W.alloc (.cells #[.int .i64 ver0, .slice A0 ss0.length c0] 41))) := ((Below.refl _ _).alloc (Nat.le_refl _) _)
  obtain ⟨q_0, hq_0⟩ : ∃ q_0 : Nat, q_0 = 1048576 - (ss0.length + totSt ss0) := ⟨_, rfl⟩
  go_wp2_with fail
  refine (szFlow_any ver0 A0 c0 ss0 1048576 _ _ (hx0.alloc2 _) (by omega)).mono ?_
  rintro e w1 ⟨rfl, hbr1⟩
  have hb1 := bthen b0 hbr1
  have b1 := hb1
  have qa01 := (Cell2.new W (.int .i64 ver0) (.slice A0 ss0.length c0) 41).then_ hbr1
  have la0 := qa01.lt
  have z1 := hb1.size
  clear hbr1 hb1
  by_cases hbig0 : 1048576 < (ss0.length + totSt ss0)
  · rw [left_no hbig0]
    go_wp2_with fail
    go_ret
    exact ⟨rfl, b1⟩
  have hle0 : left 1048576 (ss0.length + totSt ss0) = (q_0 : Int) := by rw [left_ok (by omega)]; omega
  rw [hle0]
  have hq0 := Lib.hid hq_0
  have hqa0 : q_0 + (ss0.length + totSt ss0) ≤ 1048576 := by omega
  clear hq_0 hle0
  have hal0 := Lib.hid (flow_afters (ss := ss0) (by omega))
  obtain ⟨q_1, hq_1⟩ : ∃ q_1 : Nat, q_1 = q_0 - (tot xs1) := ⟨_, rfl⟩
  go_wp2_with fail
  refine (szStringS_any A1 c1 xs1 q_0 _ _ (hx1.then_ b1) (by omega)).mono ?_
  rintro e w' ⟨rfl, rfl⟩
  by_cases hbig1 : q_0 < (tot xs1)
  · rw [left_no hbig1]
    go_wp2_with fail
    go_ret
    exact ⟨rfl, b1⟩
  have hle1 : left q_0 (tot xs1) = (q_1 : Int) := by rw [left_ok (by omega)]; omega
  rw [hle1]
  have hq1 := Lib.hid hq_1
  have hqa1 : q_1 + (tot xs1) ≤ q_0 := by omega
  clear hq_1 hle1
  have holen : (readyOut ver0 ss0 xs1).length ≤ 1048576 := by have := ready_length ss0 xs1; unfold readyOut; split <;> simp <;> omega
  obtain ⟨pa010, pa011⟩ := id qa01
  go_wp2_with fail
  (with_reducible refine (toFlow_any ver0 A0 c0 ss0 _ _ (hx0.then_ b1) (by omega) hal0.out).mono ?_)
  rintro e w2 ⟨Au0, cu0, rfl, hou0, hbr2⟩
  have hb2 := hbr2
  have qa02 := qa01.then_ hb2
  have b2 := bthen b1 hb2
  have z2 := hb2.size
  clear qa01 b1 hbr2 hb2 pa010 pa011
  have ru02 := Below.refl w2.heap.size w2
  have hsu0 := hou0.sts
  go_wp2_with fail
  (with_reducible refine (toStringS_any A1 c1 xs1 _ _ (hx1.then_ b2) (by first | exact b2.size | (simp; try omega)) (by omega)).mono ?_)
  rintro e w3 ⟨Au1, cu1, rfl, hou1, hbr3⟩
  have hb3 := hbr3
  have qa03 := qa02.then_ hb3
  have b3 := bthen b2 hb3
  have ru03 := bthen ru02 hb3
  have z3 := hb3.size
  clear qa02 b2 ru02 hbr3 hb3
  have gu13 := hou1.base_ (base' := w2.heap.size) (by simp)
  go_wp2_with fail
  (with_reducible refine (sFlowReady_any ver0 Au0 Au1 cu0 cu1 ss0 xs1 _ _ _ (hsu0.then_ ru03) gu13.strs (by omega)).mono ?_)
  rintro e w4 ⟨AR, cR, rfl, hoR, hbr4⟩
  have hb4 := hbr4
  have qa04 := qa03.then_ hb4
  have b4 := bthen b3 hb4
  have ru04 := bthen ru03 hb4
  have gu14 := gu13.below hb4
  have z4 := hb4.size
  clear qa03 b3 ru03 gu13 hbr4 hb4
  have rR4 := Below.refl w4.heap.size w4
  have hsR := hoR.strs
  obtain ⟨pa040, pa041⟩ := id qa04
  go_wp2_with fail
  (with_reducible refine (toFlow_any ver0 A0 c0 ss0 _ _ (hx0.then_ b4) (by omega) hal0.out).mono ?_)
  rintro e w5 ⟨Ax0, cx0, rfl, hox0, hbr5⟩
  have hb5 := hbr5
  have qa05 := qa04.then_ hb5
  have b5 := bthen b4 hb5
  have rR5 := bthen rR4 hb5
  have z5 := hb5.size
  clear qa04 b4 rR4 hbr5 hb5 pa040 pa041
  have rx05 := Below.refl w5.heap.size w5
  have hsx0 := hox0.sts
  go_wp2_with fail
  (with_reducible refine (toStringS_any A1 c1 xs1 _ _ ((hx1.then_ b5).alloc2 _) (by first | exact b5.size | (simp; try omega)) (by omega)).mono ?_)
  rintro e w6 ⟨Ax1, cx1, rfl, hox1, hbr6⟩
  have hb6 : Below w5.heap.size w5 w6 := bthen ((Below.refl _ _).alloc (Nat.le_refl _) _) hbr6
  have qa06 := qa05.then_ hb6
  have qx06 := (Cell2.new w5 (.int .i64 ver0) (.slice Ax0 ss0.length cx0) 25).then_ hbr6
  have lx0 := qx06.lt
  have b6 := bthen b5 hb6
  have rR6 := bthen rR5 hb6
  have rx06 := bthen rx05 hb6
  have z6 := hb6.size
  clear qa05 b5 rR5 rx05 hbr6 hb6
  have gx16 := hox1.base_ (base' := w5.heap.size + 1) (by simp)
  obtain ⟨px060, px061⟩ := id qx06
  go_wp2_with fail
  (with_reducible refine (iFlowReady_any ver0 Ax0 Ax1 cx0 cx1 ss0 xs1 _ _ _ (hsx0.then_ rx06) gx16.strs (by omega)).mono ?_)
  rintro e w7 ⟨AG, cG, rfl, hoG, hbr7⟩
  have hb7 := hbr7
  have qa07 := qa06.then_ hb7
  have qx07 := qx06.then_ hb7
  have b7 := bthen b6 hb7
  have rR7 := bthen rR6 hb7
  have rx07 := bthen rx06 hb7
  have gx17 := gx16.below hb7
  have z7 := hb7.size
  clear qa06 qx06 b6 rR6 rx06 gx16 hbr7 hb7 px060 px061
  have gG7 := hoG.base_ (base' := w6.heap.size) (by simp)
  go_wp2_with fail
  (with_reducible refine (eqStringS_same AG AR cG cR (readyOut ver0 ss0 xs1) _ _ _ gG7.strs (hsR.then_ rR7)).mono ?_)
  rintro e w8 ⟨rfl, hbr8⟩
  have hb8 := hbr8
  have qa08 := qa07.then_ hb8
  have qx08 := qx07.then_ hb8
  have b8 := bthen b7 hb8
  have rR8 := bthen rR7 hb8
  have rx08 := bthen rx07 hb8
  have gx18 := gx17.below hb8
  have gG8 := gG7.below hb8
  have z8 := hb8.size
  clear qa07 qx07 b7 rR7 rx07 gx17 gG7 hbr8 hb8
  obtain ⟨pa080, pa081⟩ := id qa08
  obtain ⟨px080, px081⟩ := id qx08
  have K8 := Lib.hid (toFlow_any ver0 A0 c0 ss0 w8.drew _ (hx0.then_ b8).drew (by omega) hal0.out)
  go_wp2_with fail
  go_region_held3 (fun w' => w'.cell? ⟨W.heap.size, 0, none⟩ = some (.int .i64 ver0) ∧ w'.cell? ⟨W.heap.size, 1, none⟩ = some (.slice A0 ss0.length c0) ∧ w'.cell? ⟨w5.heap.size, 0, none⟩ = some (.int .i64 ver0) ∧ w'.cell? ⟨w5.heap.size, 1, none⟩ = some (.slice Ax0 ss0.length cx0)) (first | assumption | go_keep)
    (first
      | (go_at_call 28; (with_reducible refine K8.out.mono ?_); rintro e wm8 ⟨Am8, cm8, rfl, hom8, hbu8⟩; have hbm8 := Below.undrew hbu8; have Sm8 := (And.intro (qa08.then_ hbm8).c0 (And.intro (qa08.then_ hbm8).c1 (And.intro (qx08.then_ hbm8).c0 (qx08.then_ hbm8).c1))))
      | (go_at_call 29; (with_reducible refine (eqFlow_same ver0 Ax0 Am8 cx0 cm8 ss0 _ w8.heap.size _ ((hsx0.then_ rx08).then_ hbm8) hom8.sts).mono ?_); rintro e w9 ⟨rfl, hbn8⟩; have Sn8 := (And.intro ((qa08.then_ hbm8).then_ hbn8).c0 (And.intro ((qa08.then_ hbm8).then_ hbn8).c1 (And.intro ((qx08.then_ hbm8).then_ hbn8).c0 ((qx08.then_ hbm8).then_ hbn8).c1)))))
  have hbr9 := bthen hbm8 hbn8
  clear K8 Sm8 Sn8 hbn8 hbm8 hbu8 hom8
  have hb9 := hbr9
  have qa09 := qa08.then_ hb9
  have qx09 := qx08.then_ hb9
  have b9 := bthen b8 hb9
  have rR9 := bthen rR8 hb9
  have rx09 := bthen rx08 hb9
  have gx19 := gx18.below hb9
  have gG9 := gG8.below hb9
  have z9 := hb9.size
  clear qa08 qx08 b8 rR8 rx08 gx18 gG8 hbr9 hb9 pa080 pa081 px080 px081
  go_wp2_with fail
  (with_reducible refine (toStringS_any A1 c1 xs1 _ _ (hx1.then_ b9) (by first | exact b9.size | (simp; try omega)) (by omega)).mono ?_)
  rintro e w10 ⟨Ay1, cy1, rfl, hoy1, hbr10⟩
  have hb10 := hbr10
  have qa010 := qa09.then_ hb10
  have qx010 := qx09.then_ hb10
  have b10 := bthen b9 hb10
  have rR10 := bthen rR9 hb10
  have rx010 := bthen rx09 hb10
  have gx110 := gx19.below hb10
  have gG10 := gG9.below hb10
  have z10 := hb10.size
  clear qa09 qx09 b9 rR9 rx09 gx19 gG9 hbr10 hb10
  have gy110 := hoy1.base_ (base' := w9.heap.size) (by simp)
  go_wp2_with fail
  (with_reducible refine (eqStringS_same Ax1 Ay1 cx1 cy1 xs1 _ _ _ gx110.strs gy110.strs).mono ?_)
  rintro e w11 ⟨rfl, hbr11⟩
  have hb11 := hbr11
  have qa011 := qa010.then_ hb11
  have qx011 := qx010.then_ hb11
  have b11 := bthen b10 hb11
  have rR11 := bthen rR10 hb11
  have rx011 := bthen rx010 hb11
  have gx111 := gx110.below hb11
  have gG11 := gG10.below hb11
  have gy111 := gy110.below hb11
  have z11 := hb11.size
  clear qa010 qx010 b10 rR10 rx010 gx110 gG10 gy110 hbr11 hb11
  obtain ⟨px0110, px0111⟩ := id qx011
  go_wp2_with fail
  (with_reducible refine (markFlow_any ver0 Ax0 cx0 ss0 w5 w11 _ hox0 rx011 (by omega)).mono ?_)
  rintro e w12 ⟨⟨m12, rfl, hm12, hm12'⟩, ht12⟩
  clear rx011 qx011
  have qa012 := qa011.betw ht12 (by omega)
  have b12 := b11.trans ((ht12.low (by omega)).mono (by omega))
  have rR12 := rR11.trans ((ht12.low (by omega)).mono (by omega))
  have gx112 := ht12.own gx111 (by omega)
  have gG12 := ht12.own gG11 (by omega)
  have z12 := ht12.size
  clear qa011 b11 rR11 gx111 gG11 ht12 px0110 px0111
  go_wp2_with fail
  (with_reducible refine (markStringS_any Ax1 cx1 xs1 m12 _ _ gx112 (by omega) (by omega)).mono ?_)
  rintro e w13 ⟨rfl, gM13, hg13⟩
  have ht13 : Betw (w5.heap.size + 1) (w6.heap.size) w12 w13 := mark_betw hox1 hg13 (by simp)
  clear gM13 hg13 gx112
  have qa013 := qa012.betw ht13 (by omega)
  have b13 := b12.trans ((ht13.low (by omega)).mono (by omega))
  have rR13 := rR12.trans ((ht13.low (by omega)).mono (by omega))
  have gG13 := ht13.own gG12 (by omega)
  have z13 := ht13.size
  clear qa012 b12 rR12 gG12 ht13
  have hk0 : ¬ (m12 : Int) < 0 := by omega
  go_wp2_with fail
  (with_reducible refine (eqStringS_same AG AR cG cR (readyOut ver0 ss0 xs1) _ _ _ gG13.strs (hsR.then_ rR13)).mono ?_)
  rintro e w14 ⟨rfl, hbr14⟩
  have hb14 := hbr14
  have qa014 := qa013.then_ hb14
  have b14 := bthen b13 hb14
  have rR14 := bthen rR13 hb14
  have gG14 := gG13.below hb14
  have z14 := hb14.size
  clear qa013 b13 rR13 gG13 hbr14 hb14
  go_wp2_with fail
  (with_reducible refine (markStringS_one AG cG (readyOut ver0 ss0 xs1) _ _ gG14 (by omega)).mono ?_)
  rintro e w15 ⟨rfl, gM15, hg15⟩
  have ht15 : Betw (w6.heap.size) (w7.heap.size) w14 w15 := mark_betw hoG hg15 (by simp)
  clear gG14 hg15
  have qa015 := qa014.betw ht15 (by omega)
  have b15 := b14.trans ((ht15.low (by omega)).mono (by omega))
  have rR15 := rR14.trans ((ht15.low (by omega)).mono (by omega))
  have z15 := ht15.size
  clear qa014 b14 rR14 ht15
  have gG15 := gM15
  clear gM15
  have hge : ¬ ((readyOut ver0 ss0 xs1).length : Int) + 1 < 0 := by omega
  go_wp2_with fail
  (with_reducible refine (heldStringS_one AG cG (readyOut ver0 ss0 xs1).length _ _ gG15.strs (by omega)).mono ?_)
  rintro e w16 ⟨rfl, hbr16⟩
  have hb16 := hbr16
  have qa016 := qa015.then_ hb16
  have b16 := bthen b15 hb16
  have rR16 := bthen rR15 hb16
  have gG16 := gG15.below hb16
  have z16 := hb16.size
  clear qa015 b15 rR15 gG15 hbr16 hb16
  obtain ⟨pa0160, pa0161⟩ := id qa016
  go_wp2_with fail
  (with_reducible refine (toFlow_any ver0 A0 c0 ss0 _ _ (hx0.then_ b16) (by omega) hal0.out).mono ?_)
  rintro e w17 ⟨Av0, cv0, rfl, hov0, hbr17⟩
  have hb17 := hbr17
  have qa017 := qa016.then_ hb17
  have b17 := bthen b16 hb17
  have rR17 := bthen rR16 hb17
  have gG17 := gG16.below hb17
  have z17 := hb17.size
  clear qa016 b16 rR16 gG16 hbr17 hb17 pa0160 pa0161
  have rv017 := Below.refl w17.heap.size w17
  have hsv0 := hov0.sts
  go_wp2_with fail
  (with_reducible refine (toStringS_any A1 c1 xs1 _ _ (hx1.then_ b17) (by first | exact b17.size | (simp; try omega)) (by omega)).mono ?_)
  rintro e w18 ⟨Av1, cv1, rfl, hov1, hbr18⟩
  have hb18 := hbr18
  have qa018 := qa017.then_ hb18
  have b18 := bthen b17 hb18
  have rR18 := bthen rR17 hb18
  have rv018 := bthen rv017 hb18
  have gG18 := gG17.below hb18
  have z18 := hb18.size
  clear qa017 b17 rR17 rv017 gG17 hbr18 hb18
  have gv118 := hov1.base_ (base' := w17.heap.size) (by simp)
  go_wp2_with fail
  (with_reducible refine (iFlowReady_any ver0 Av0 Av1 cv0 cv1 ss0 xs1 _ _ _ (hsv0.then_ rv018) gv118.strs (by omega)).mono ?_)
  rintro e w19 ⟨AH, cH, rfl, hoH, hbr19⟩
  have hb19 := hbr19
  have qa019 := qa018.then_ hb19
  have b19 := bthen b18 hb19
  have rR19 := bthen rR18 hb19
  have rv019 := bthen rv018 hb19
  have gG19 := gG18.below hb19
  have gv119 := gv118.below hb19
  have z19 := hb19.size
  clear qa018 b18 rR18 rv018 gG18 gv118 hbr19 hb19
  have gH19 := hoH.base_ (base' := w18.heap.size) (by simp)
  go_wp2_with fail
  (with_reducible refine (eqStringS_same AH AR cH cR (readyOut ver0 ss0 xs1) _ _ _ gH19.strs (hsR.then_ rR19)).mono ?_)
  rintro e w20 ⟨rfl, hbr20⟩
  have hb20 := hbr20
  have qa020 := qa019.then_ hb20
  have b20 := bthen b19 hb20
  have rR20 := bthen rR19 hb20
  have gG20 := gG19.below hb20
  have gH20 := gH19.below hb20
  have z20 := hb20.size
  clear qa019 b19 rR19 gG19 gH19 hbr20 hb20
  go_wp2_with fail
  (with_reducible refine (heldStringS_one AG cG (readyOut ver0 ss0 xs1).length _ _ gG20.strs (by omega)).mono ?_)
  rintro e w21 ⟨rfl, hbr21⟩
  have hb21 := hbr21
  have qa021 := qa020.then_ hb21
  have b21 := bthen b20 hb21
  have rR21 := bthen rR20 hb21
  have gG21 := gG20.below hb21
  have gH21 := gH20.below hb21
  have z21 := hb21.size
  clear qa020 b20 rR20 gG20 gH20 hbr21 hb21
  go_wp2_with fail
  go_ret
  exact ⟨rfl, b21⟩

set_option maxRecDepth 100000 in
theorem fnExactFlowReady_lifted (os : Os) (started : os.Started) (H : Type) (enc : TypeId × Value → H) :
    ReturnsInHanded {} Try.checked os 13 .any (Rows.fnExactFlowReadySpec.pre6 enc Try.prog Try.f13 Rows.fnExactFlowReadyRow.domain false) (Rows.fnExactFlowReadySpec.post enc Try.prog Try.f13 false true false false) := by
  refine returnsInHanded_of_change (C := Try.checked) own started (by kernel_rfl) Try.func13
    (ChangeSpec.witness6 (enc := enc) (C := Try.checked) false ⟨#[], #[.agg #[.int .i64 0, .slice none 0 0], .slice none 0 0], []⟩ 8 (by kernel_rfl) (by kernel_rfl) (by kernel_rfl) (by kernel_rfl)) ?_
  intro W base args ds gs before hval0 hW _ _
  have hval : ∀ (j : Nat) t v, Try.f13.params[j]? = some t → args[j]? = some v → Value.okWide Try.prog W .any base t v := hval0
  obtain ⟨p, q, hA0, hV, _⟩ := id hW
  have hA : DataW.TrodAll enc Try.prog W 0 (fun _ => true) true Try.f13.params.toList args.toList ds p := hA0
  rw [Try.params13] at hA hval
  obtain ⟨v0, v1, d0, d1, p0, p1, rfl, rfl, rfl, h0, h1⟩ := trodAll_two hA
  obtain ⟨rfl, rfl⟩ := trodVars_none hV
  refine (exactFlowReady_law W v0 v1 (arg_flow (hval 0 _ v0 rfl rfl) h0) (arg_strs (hval 1 _ v1 rfl rfl) h1)).mono fun e W' ⟨he, hw⟩ => ?_
  subst he
  exact ⟨_, rfl, law_post laidOut (readable_of (by kernel_rfl)) rfl Try.underlying4 rfl rfl rfl rfl hW hw⟩

theorem fnExactFlowReady_holds : Rows.FnExactFlowReadySaid :=
  OpenClaim.holds_of_wide 13 Try.f13 rfl rfl rfl rfl rfl rfl rfl ⟨rfl, rfl, rfl, rfl, rfl⟩ rfl rfl rfl rfl rfl (by kernel_rfl) Try.func13 (by kernel_rfl)
    (of_decide_eq_true (by kernel_rfl)) (by unfold Func.isWrapper; rw [if_neg (of_decide_eq_false (by kernel_rfl))]; exact ⟨rfl, rfl⟩)
    (fun os started H enc _ => fnExactFlowReady_lifted os started H enc)

end Go.Proofs.Ytcammncomeiciaa
