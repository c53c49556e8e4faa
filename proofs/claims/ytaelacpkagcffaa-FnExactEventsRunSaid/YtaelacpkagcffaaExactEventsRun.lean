/- FnExactEventsRun returns true for all arguments. No condition. -/
import Derived.Test.YtaelacpkagcffaaFlowArgs
import Derived.Test.YtaelacpkagcffaaFlowFns
import Derived.Test.YtaelacpkagcffaaMarkFlow
import Derived.Test.YtaelacpkagcffaaExactWords
import Derived.Test.YtaelacpkagcffaaRunCopies
import Derived.Test.YtaelacpkagcffaaEvArgs
import Derived.Test.YtaelacpkagcffaaEvCopies
import Derived.Test.YtaelacpkagcffaaEvMarks
import Derived.Test.YtaelacpkagcffaaEvFns
namespace Go.Proofs.Ytaelacpkagcffaa
set_option linter.unusedVariables false
set_option maxRecDepth 100000
open Go.ChangeShapes Go.WideShapes Go.ChangeAt Go.RowKit

set_option maxHeartbeats 16000000 in
theorem exactEventsRun_law (W : World) (v0 v1 : Value) (h0 : IsFlow W v0) (h1 : IsEvs W v1) : Calls Try.prog 4 #[v0, v1] W fun e W' => e = .returned (.bool true) ∧ Below W.heap.size W W' := by
  obtain ⟨ver0, A0, c0, ss0, rfl, hx0⟩ := h0
  have hlen0 := hx0.len
  have hcap0 := hx0.cap
  obtain ⟨A1, c1, es1, rfl, hx1⟩ := h1
  have hlen1 := hx1.len
  have hcap1 := hx1.cap
  go_enter Try.func4, Try.ntmps4
  have b0 : Below W.heap.size W ((W.alloc (.cells #[.int .i64 ver0, .slice A0 ss0.length c0] 24))) := ((Below.refl _ _).alloc (Nat.le_refl _) _)
  obtain ⟨q_0, hq_0⟩ : ∃ q_0 : Nat, q_0 = 1048576 - (ss0.length + totSt ss0) := ⟨_, rfl⟩
  go_wp2_with fail
  refine (szFlow_any ver0 A0 c0 ss0 1048576 _ _ (hx0.alloc2 _) (by omega)).mono ?_
  rintro e w1 ⟨rfl, hbr1⟩
  have hb1 := bthen b0 hbr1
  have b1 := hb1
  have qa01 := (Cell2.new W (.int .i64 ver0) (.slice A0 ss0.length c0) 24).then_ hbr1
  have la0 := qa01.lt
  have z1 := hb1.size
  clear hbr1 hb1
  by_cases hbig0 : 1048576 < (ss0.length + totSt ss0)
  · rw [left_no hbig0]
    go_wp2_with fail
    go_ret
    exact ⟨rfl, b1⟩
  have hle0 : left 1048576 (ss0.length + totSt ss0) = (q_0 : Int) := by rw [left_ok (by omega)]; omega
  rw [hle0]
  have hq0 := Lib.hid hq_0
  have hqa0 : q_0 + (ss0.length + totSt ss0) ≤ 1048576 := by omega
  clear hq_0 hle0
  have hal0 := Lib.hid (flow_afters (ss := ss0) (by omega))
  obtain ⟨q_1, hq_1⟩ : ∃ q_1 : Nat, q_1 = q_0 - (es1.length + totE es1) := ⟨_, rfl⟩
  go_wp2_with fail
  refine (szEventS_any A1 c1 es1 q_0 _ _ (hx1.then_ b1) (by omega)).mono ?_
  rintro e w2 ⟨rfl, hbr2⟩
  have hb2 := hbr2
  have qa02 := qa01.then_ hb2
  have b2 := bthen b1 hb2
  have z2 := hb2.size
  clear qa01 b1 hbr2 hb2
  by_cases hbig1 : q_0 < (es1.length + totE es1)
  · rw [left_no hbig1]
    go_wp2_with fail
    go_ret
    exact ⟨rfl, b2⟩
  have hle1 : left q_0 (es1.length + totE es1) = (q_1 : Int) := by rw [left_ok (by omega)]; omega
  rw [hle1]
  have hq1 := Lib.hid hq_1
  have hqa1 : q_1 + (es1.length + totE es1) ≤ q_0 := by omega
  clear hq_1 hle1
  have holen : (erDone ver0 ss0 es1).length ≤ 8 := erDone_len ver0 ss0 es1
  obtain ⟨pa020, pa021⟩ := id qa02
  go_wp2_with fail
  (with_reducible refine (toFlow_any ver0 A0 c0 ss0 _ _ (hx0.then_ b2) (by omega) hal0.out).mono ?_)
  rintro e w3 ⟨Au0, cu0, rfl, hou0, hbr3⟩
  have hb3 := hbr3
  have qa03 := qa02.then_ hb3
  have b3 := bthen b2 hb3
  have z3 := hb3.size
  clear qa02 b2 hbr3 hb3 pa020 pa021
  have ru03 := Below.refl w3.heap.size w3
  have hsu0 := hou0.sts
  have hobu0 := hou0.base_ (base' := w2.heap.size) (by simp)
  go_wp2_with fail
  (with_reducible refine (toEventS_any A1 c1 es1 _ _ (hx1.then_ b3) (by omega)).mono ?_)
  rintro e w4 ⟨Au1, cu1, rfl, hou1, hbr4⟩
  have hb4 := hbr4
  have qa04 := qa03.then_ hb4
  have b4 := bthen b3 hb4
  have ru04 := bthen ru03 hb4
  have z4 := hb4.size
  clear qa03 b3 ru03 hbr4 hb4
  have gu14 := hou1.base_ (base' := w3.heap.size) (by simp)
  go_wp2_with fail
  (with_reducible refine (sEventsRun_any ver0 Au0 Au1 cu0 cu1 ss0 es1 _ _ _ (hsu0.then_ ru04) gu14.evs (by omega)).mono ?_)
  rintro e w5 ⟨AR, cR, rfl, hoR, hbr5⟩
  have hb5 := hbr5
  have qa05 := qa04.then_ hb5
  have b5 := bthen b4 hb5
  have ru05 := bthen ru04 hb5
  have gu15 := gu14.below hb5
  have z5 := hb5.size
  clear qa04 b4 ru04 gu14 hbr5 hb5
  have rR5 := Below.refl w5.heap.size w5
  have hsR := hoR.strs
  obtain ⟨pa050, pa051⟩ := qa05.alloc (.cells #[.int .i64 (erSt ver0 ss0 es1), .slice AR (erDone ver0 ss0 es1).length cR] 33)
  go_wp2_with fail
  (with_reducible refine (toFlow_any ver0 A0 c0 ss0 _ _ ((hx0.then_ b5).alloc2 _) (by omega) hal0.out).mono ?_)
  rintro e w6 ⟨Ax0, cx0, rfl, hox0, hbr6⟩
  have hb6 : Below w5.heap.size w5 w6 := bthen ((Below.refl _ _).alloc (Nat.le_refl _) _) hbr6
  have qa06 := qa05.then_ hb6
  have qR6 := (Cell2.new w5 (.int .i64 (erSt ver0 ss0 es1)) (.slice AR (erDone ver0 ss0 es1).length cR) 33).then_ hbr6
  have lR := qR6.lt
  have b6 := bthen b5 hb6
  have rR6 := bthen rR5 hb6
  have z6 := hb6.size
  clear qa05 b5 rR5 hbr6 hb6 pa050 pa051
  have rx06 := Below.refl w6.heap.size w6
  have hsx0 := hox0.sts
  have hobx0 := hox0.base_ (base' := w5.heap.size + 1) (by simp)
  go_wp2_with fail
  (with_reducible refine (toEventS_any A1 c1 es1 _ _ ((hx1.then_ b6).alloc2 _) (by omega)).mono ?_)
  rintro e w7 ⟨Ax1, cx1, rfl, hox1, hbr7⟩
  have hb7 : Below w6.heap.size w6 w7 := bthen ((Below.refl _ _).alloc (Nat.le_refl _) _) hbr7
  have qa07 := qa06.then_ hb7
  have qR7 := qR6.then_ hb7
  have qx07 := (Cell2.new w6 (.int .i64 ver0) (.slice Ax0 ss0.length cx0) 38).then_ hbr7
  have lx0 := qx07.lt
  have b7 := bthen b6 hb7
  have rR7 := bthen rR6 hb7
  have rx07 := bthen rx06 hb7
  have z7 := hb7.size
  clear qa06 qR6 b6 rR6 rx06 hbr7 hb7
  have gx17 := hox1.base_ (base' := w6.heap.size + 1) (by simp)
  obtain ⟨px070, px071⟩ := id qx07
  go_wp2_with fail
  (with_reducible refine (iEventsRun_any ver0 Ax0 Ax1 cx0 cx1 ss0 es1 _ _ _ (hsx0.then_ rx07) gx17.evs (by omega)).mono ?_)
  rintro e w8 ⟨AG, cG, rfl, hoG, hbr8⟩
  have hb8 := hbr8
  have qa08 := qa07.then_ hb8
  have qR8 := qR7.then_ hb8
  have qx08 := qx07.then_ hb8
  have b8 := bthen b7 hb8
  have rR8 := bthen rR7 hb8
  have rx08 := bthen rx07 hb8
  have gx18 := gx17.below hb8
  have z8 := hb8.size
  clear qa07 qR7 qx07 b7 rR7 rx07 gx17 hbr8 hb8 px070 px071
  have gG8 := hoG.base_ (base' := w7.heap.size) (by simp)
  obtain ⟨pR80, pR81⟩ := qR8.alloc (.cells #[.int .i64 (erSt ver0 ss0 es1), .slice AG (erDone ver0 ss0 es1).length cG] 33)
  go_wp2_with fail
  (with_reducible refine (eqRun_same (erSt ver0 ss0 es1) AG AR cG cR (erDone ver0 ss0 es1) _ _ _ (gG8.strs.alloc2 _) ((hsR.then_ rR8).alloc2 _)).mono ?_)
  rintro e w9 ⟨rfl, hbr9⟩
  have hb9 : Below w8.heap.size w8 w9 := bthen ((Below.refl _ _).alloc (Nat.le_refl _) _) hbr9
  have qa09 := qa08.then_ hb9
  have qR9 := qR8.then_ hb9
  have qx09 := qx08.then_ hb9
  have qG9 := (Cell2.new w8 (.int .i64 (erSt ver0 ss0 es1)) (.slice AG (erDone ver0 ss0 es1).length cG) 33).then_ hbr9
  have lG := qG9.lt
  have b9 := bthen b8 hb9
  have rR9 := bthen rR8 hb9
  have rx09 := bthen rx08 hb9
  have gx19 := gx18.below hb9
  have gG9 := gG8.below hb9
  have z9 := hb9.size
  clear qa08 qR8 qx08 b8 rR8 rx08 gx18 gG8 hbr9 hb9 pR80 pR81
  obtain ⟨pa090, pa091⟩ := id qa09
  obtain ⟨px090, px091⟩ := id qx09
  have K9 := Lib.hid (toFlow_any ver0 A0 c0 ss0 w9.drew _ (hx0.then_ b9).drew (by omega) hal0.out)
  go_wp2_with fail
  go_region_held3 (fun w' => w'.cell? ⟨W.heap.size, 0, none⟩ = some (.int .i64 ver0) ∧ w'.cell? ⟨W.heap.size, 1, none⟩ = some (.slice A0 ss0.length c0) ∧ w'.cell? ⟨w6.heap.size, 0, none⟩ = some (.int .i64 ver0) ∧ w'.cell? ⟨w6.heap.size, 1, none⟩ = some (.slice Ax0 ss0.length cx0)) (first | assumption | go_keep)
    (first
      | (go_at_call 17; (with_reducible refine K9.out.mono ?_); rintro e wm9 ⟨Am9, cm9, rfl, hom9, hbu9⟩; have hbm9 := Below.undrew hbu9; have Sm9 := (And.intro (qa09.then_ hbm9).c0 (And.intro (qa09.then_ hbm9).c1 (And.intro (qx09.then_ hbm9).c0 (qx09.then_ hbm9).c1))))
      | (go_at_call 22; (with_reducible refine (eqFlow_same ver0 Ax0 Am9 cx0 cm9 ss0 _ w9.heap.size _ ((hsx0.then_ rx09).then_ hbm9) hom9.sts).mono ?_); rintro e w10 ⟨rfl, hbn9⟩; have Sn9 := (And.intro ((qa09.then_ hbm9).then_ hbn9).c0 (And.intro ((qa09.then_ hbm9).then_ hbn9).c1 (And.intro ((qx09.then_ hbm9).then_ hbn9).c0 ((qx09.then_ hbm9).then_ hbn9).c1)))))
  have hbr10 := bthen hbm9 hbn9
  clear K9 Sm9 Sn9 hbn9 hbm9 hbu9 hom9
  have hb10 := hbr10
  have qa010 := qa09.then_ hb10
  have qR10 := qR9.then_ hb10
  have qx010 := qx09.then_ hb10
  have qG10 := qG9.then_ hb10
  have b10 := bthen b9 hb10
  have rR10 := bthen rR9 hb10
  have rx010 := bthen rx09 hb10
  have gx110 := gx19.below hb10
  have gG10 := gG9.below hb10
  have z10 := hb10.size
  clear qa09 qR9 qx09 qG9 b9 rR9 rx09 gx19 gG9 hbr10 hb10 pa090 pa091 px090 px091
  go_wp2_with fail
  (with_reducible refine (toEventS_any A1 c1 es1 _ _ (hx1.then_ b10) (by omega)).mono ?_)
  rintro e w11 ⟨Ay1, cy1, rfl, hoy1, hbr11⟩
  have hb11 := hbr11
  have qa011 := qa010.then_ hb11
  have qR11 := qR10.then_ hb11
  have qx011 := qx010.then_ hb11
  have qG11 := qG10.then_ hb11
  have b11 := bthen b10 hb11
  have rR11 := bthen rR10 hb11
  have rx011 := bthen rx010 hb11
  have gx111 := gx110.below hb11
  have gG11 := gG10.below hb11
  have z11 := hb11.size
  clear qa010 qR10 qx010 qG10 b10 rR10 rx010 gx110 gG10 hbr11 hb11
  have gy111 := hoy1.base_ (base' := w10.heap.size) (by simp)
  go_wp2_with fail
  (with_reducible refine (eqEventS_same Ax1 Ay1 cx1 cy1 es1 _ _ _ gx111.evs gy111.evs).mono ?_)
  rintro e w12 ⟨rfl, hbr12⟩
  have hb12 := hbr12
  have qa012 := qa011.then_ hb12
  have qR12 := qR11.then_ hb12
  have qx012 := qx011.then_ hb12
  have qG12 := qG11.then_ hb12
  have b12 := bthen b11 hb12
  have rR12 := bthen rR11 hb12
  have rx012 := bthen rx011 hb12
  have gx112 := gx111.below hb12
  have gG12 := gG11.below hb12
  have gy112 := gy111.below hb12
  have z12 := hb12.size
  clear qa011 qR11 qx011 qG11 b11 rR11 rx011 gx111 gG11 gy111 hbr12 hb12
  obtain ⟨px0120, px0121⟩ := id qx012
  go_wp2_with fail
  (with_reducible refine (markFlow_any ver0 Ax0 cx0 ss0 w6 w12 _ hobx0 rx012 (by omega)).mono ?_)
  rintro e w13 ⟨⟨m13, rfl, hm13, hm13'⟩, ht13⟩
  clear rx012 qx012
  have qa013 := qa012.betw ht13 (by omega)
  have qR13 := qR12.betw ht13 (by omega)
  have qG13 := qG12.betw ht13 (by omega)
  have b13 := b12.trans ((ht13.low (by omega)).mono (by omega))
  have rR13 := rR12.trans ((ht13.low (by omega)).mono (by omega))
  have gx113 := ht13.ownE gx112 (by omega)
  have gG13 := ht13.own gG12 (by omega)
  have z13 := ht13.size
  clear qa012 qR12 qG12 b12 rR12 gx112 gG12 ht13 px0120 px0121
  go_wp2_with fail
  (with_reducible refine (markEventS_any Ax1 cx1 es1 m13 _ _ gx113 (by omega) (by omega)).mono ?_)
  rintro e w14 ⟨rfl, gM14, hg14⟩
  have ht14 : Betw (w6.heap.size + 1) (w7.heap.size) w13 w14 := mark_betwE hox1 hg14 (by simp)
  clear gM14 hg14 gx113
  have qa014 := qa013.betw ht14 (by omega)
  have qR14 := qR13.betw ht14 (by omega)
  have qG14 := qG13.betw ht14 (by omega)
  have b14 := b13.trans ((ht14.low (by omega)).mono (by omega))
  have rR14 := rR13.trans ((ht14.low (by omega)).mono (by omega))
  have gG14 := ht14.own gG13 (by omega)
  have z14 := ht14.size
  clear qa013 qR13 qG13 b13 rR13 gG13 ht14
  have hk0 : ¬ (m13 : Int) < 0 := by omega
  obtain ⟨pG140, pG141⟩ := id qG14
  obtain ⟨pR140, pR141⟩ := id qR14
  go_wp2_with fail
  (with_reducible refine (eqRun_same (erSt ver0 ss0 es1) AG AR cG cR (erDone ver0 ss0 es1) _ _ _ gG14.strs (hsR.then_ rR14)).mono ?_)
  rintro e w15 ⟨rfl, hbr15⟩
  have hb15 := hbr15
  have qa015 := qa014.then_ hb15
  have qR15 := qR14.then_ hb15
  have qG15 := qG14.then_ hb15
  have b15 := bthen b14 hb15
  have rR15 := bthen rR14 hb15
  have gG15 := gG14.below hb15
  have z15 := hb15.size
  clear qa014 qR14 qG14 b14 rR14 gG14 hbr15 hb15 pG140 pG141 pR140 pR141
  obtain ⟨pG150, pG151⟩ := id qG15
  go_wp2_with fail
  (with_reducible refine (markRun_one (erSt ver0 ss0 es1) AG cG (erDone ver0 ss0 es1) _ _ gG15 (by omega)).mono ?_)
  rintro e w16 ⟨rfl, gM16, hg16⟩
  have ht16 : Betw (w7.heap.size) (w8.heap.size) w15 w16 := mark_betw hoG hg16 (by simp)
  clear gG15 hg16 pG150 pG151
  have qa016 := qa015.betw ht16 (by omega)
  have qR16 := qR15.betw ht16 (by omega)
  have qG16 := qG15.betw ht16 (by omega)
  have b16 := b15.trans ((ht16.low (by omega)).mono (by omega))
  have rR16 := rR15.trans ((ht16.low (by omega)).mono (by omega))
  have z16 := ht16.size
  clear qa015 qR15 qG15 b15 rR15 ht16
  have gG16 := gM16
  clear gM16
  have hge : ¬ ((erDone ver0 ss0 es1).length : Int) + 1 < 0 := by omega
  obtain ⟨pG160, pG161⟩ := id qG16
  go_wp2_with fail
  (with_reducible refine (heldRun_one (erSt ver0 ss0 es1) AG cG (erDone ver0 ss0 es1).length _ _ gG16.strs (by omega)).mono ?_)
  rintro e w17 ⟨rfl, hbr17⟩
  have hb17 := hbr17
  have qa017 := qa016.then_ hb17
  have qR17 := qR16.then_ hb17
  have qG17 := qG16.then_ hb17
  have b17 := bthen b16 hb17
  have rR17 := bthen rR16 hb17
  have gG17 := gG16.below hb17
  have z17 := hb17.size
  clear qa016 qR16 qG16 b16 rR16 gG16 hbr17 hb17 pG160 pG161
  obtain ⟨pa0170, pa0171⟩ := id qa017
  go_wp2_with fail
  (with_reducible refine (toFlow_any ver0 A0 c0 ss0 _ _ (hx0.then_ b17) (by omega) hal0.out).mono ?_)
  rintro e w18 ⟨Av0, cv0, rfl, hov0, hbr18⟩
  have hb18 := hbr18
  have qa018 := qa017.then_ hb18
  have qR18 := qR17.then_ hb18
  have qG18 := qG17.then_ hb18
  have b18 := bthen b17 hb18
  have rR18 := bthen rR17 hb18
  have gG18 := gG17.below hb18
  have z18 := hb18.size
  clear qa017 qR17 qG17 b17 rR17 gG17 hbr18 hb18 pa0170 pa0171
  have rv018 := Below.refl w18.heap.size w18
  have hsv0 := hov0.sts
  have hobv0 := hov0.base_ (base' := w17.heap.size) (by simp)
  go_wp2_with fail
  (with_reducible refine (toEventS_any A1 c1 es1 _ _ (hx1.then_ b18) (by omega)).mono ?_)
  rintro e w19 ⟨Av1, cv1, rfl, hov1, hbr19⟩
  have hb19 := hbr19
  have qa019 := qa018.then_ hb19
  have qR19 := qR18.then_ hb19
  have qG19 := qG18.then_ hb19
  have b19 := bthen b18 hb19
  have rR19 := bthen rR18 hb19
  have rv019 := bthen rv018 hb19
  have gG19 := gG18.below hb19
  have z19 := hb19.size
  clear qa018 qR18 qG18 b18 rR18 rv018 gG18 hbr19 hb19
  have gv119 := hov1.base_ (base' := w18.heap.size) (by simp)
  go_wp2_with fail
  (with_reducible refine (iEventsRun_any ver0 Av0 Av1 cv0 cv1 ss0 es1 _ _ _ (hsv0.then_ rv019) gv119.evs (by omega)).mono ?_)
  rintro e w20 ⟨AH, cH, rfl, hoH, hbr20⟩
  have hb20 := hbr20
  have qa020 := qa019.then_ hb20
  have qR20 := qR19.then_ hb20
  have qG20 := qG19.then_ hb20
  have b20 := bthen b19 hb20
  have rR20 := bthen rR19 hb20
  have rv020 := bthen rv019 hb20
  have gG20 := gG19.below hb20
  have gv120 := gv119.below hb20
  have z20 := hb20.size
  clear qa019 qR19 qG19 b19 rR19 rv019 gG19 gv119 hbr20 hb20
  have gH20 := hoH.base_ (base' := w19.heap.size) (by simp)
  obtain ⟨pR200, pR201⟩ := qR20.alloc (.cells #[.int .i64 (erSt ver0 ss0 es1), .slice AH (erDone ver0 ss0 es1).length cH] 33)
  go_wp2_with fail
  (with_reducible refine (eqRun_same (erSt ver0 ss0 es1) AH AR cH cR (erDone ver0 ss0 es1) _ _ _ (gH20.strs.alloc2 _) ((hsR.then_ rR20).alloc2 _)).mono ?_)
  rintro e w21 ⟨rfl, hbr21⟩
  have hb21 : Below w20.heap.size w20 w21 := bthen ((Below.refl _ _).alloc (Nat.le_refl _) _) hbr21
  have qa021 := qa020.then_ hb21
  have qR21 := qR20.then_ hb21
  have qG21 := qG20.then_ hb21
  have qH21 := (Cell2.new w20 (.int .i64 (erSt ver0 ss0 es1)) (.slice AH (erDone ver0 ss0 es1).length cH) 33).then_ hbr21
  have lH := qH21.lt
  have b21 := bthen b20 hb21
  have rR21 := bthen rR20 hb21
  have gG21 := gG20.below hb21
  have gH21 := gH20.below hb21
  have z21 := hb21.size
  clear qa020 qR20 qG20 b20 rR20 gG20 gH20 hbr21 hb21 pR200 pR201
  obtain ⟨pG210, pG211⟩ := id qG21
  go_wp2_with fail
  (with_reducible refine (heldRun_one (erSt ver0 ss0 es1) AG cG (erDone ver0 ss0 es1).length _ _ gG21.strs (by omega)).mono ?_)
  rintro e w22 ⟨rfl, hbr22⟩
  have hb22 := hbr22
  have qa022 := qa021.then_ hb22
  have qR22 := qR21.then_ hb22
  have qG22 := qG21.then_ hb22
  have qH22 := qH21.then_ hb22
  have b22 := bthen b21 hb22
  have rR22 := bthen rR21 hb22
  have gG22 := gG21.below hb22
  have gH22 := gH21.below hb22
  have z22 := hb22.size
  clear qa021 qR21 qG21 qH21 b21 rR21 gG21 gH21 hbr22 hb22 pG210 pG211
  go_wp2_with fail
  go_ret
  exact ⟨rfl, b22⟩

set_option maxRecDepth 100000 in
theorem fnExactEventsRun_lifted (os : Os) (started : os.Started) (H : Type) (enc : TypeId × Value → H) :
    ReturnsInHanded {} Try.checked os 4 .any (Rows.fnExactEventsRunSpec.pre6 enc Try.prog Try.f4 Rows.fnExactEventsRunRow.domain false) (Rows.fnExactEventsRunSpec.post enc Try.prog Try.f4 false true false false) := by
  refine returnsInHanded_of_change (C := Try.checked) own started (by kernel_rfl) Try.func4
    (ChangeSpec.witness6 (enc := enc) (C := Try.checked) false ⟨#[], #[.agg #[.int .i64 0, .slice none 0 0], .slice none 0 0], []⟩ 8 (by kernel_rfl) (by kernel_rfl) (by kernel_rfl) (by kernel_rfl)) ?_
  intro W base args ds gs before hval0 hW _ _
  have hval : ∀ (j : Nat) t v, Try.f4.params[j]? = some t → args[j]? = some v → Value.okWide Try.prog W .any base t v := hval0
  obtain ⟨p, q, hA0, hV, _⟩ := id hW
  have hA : DataW.TrodAll enc Try.prog W 0 (fun _ => true) true Try.f4.params.toList args.toList ds p := hA0
  rw [Try.params4] at hA hval
  obtain ⟨v0, v1, d0, d1, p0, p1, rfl, rfl, rfl, h0, h1⟩ := trodAll_two hA
  obtain ⟨rfl, rfl⟩ := trodVars_none hV
  refine (exactEventsRun_law W v0 v1 (arg_flow (hval 0 _ v0 rfl rfl) h0) (arg_events (hval 1 _ v1 rfl rfl) h1)).mono fun e W' ⟨he, hw⟩ => ?_
  subst he
  exact ⟨_, rfl, law_post laidOut (readable_of (by kernel_rfl)) rfl Try.underlying4 rfl rfl rfl rfl hW hw⟩

theorem fnExactEventsRun_holds : Rows.FnExactEventsRunSaid :=
  OpenClaim.holds_of_wide 4 Try.f4 rfl rfl rfl rfl rfl rfl rfl ⟨rfl, rfl, rfl, rfl, rfl⟩ rfl rfl rfl rfl rfl (by kernel_rfl) Try.func4 (by kernel_rfl)
    (of_decide_eq_true (by kernel_rfl)) (by unfold Func.isWrapper; rw [if_neg (of_decide_eq_false (by kernel_rfl))]; exact ⟨rfl, rfl⟩)
    (fun os started H enc _ => fnExactEventsRun_lifted os started H enc)

end Go.Proofs.Ytaelacpkagcffaa
