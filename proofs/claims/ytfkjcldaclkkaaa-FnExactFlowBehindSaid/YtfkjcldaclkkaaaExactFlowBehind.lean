/- FnExactFlowBehind returns true for all arguments. No condition. -/
import Derived.Test.YtfkjcldaclkkaaaFlowArgs
import Derived.Test.YtfkjcldaclkkaaaFlowFns
import Derived.Test.YtfkjcldaclkkaaaMarkFlow
import Derived.Test.YtfkjcldaclkkaaaExactWords
import Derived.Test.YtfkjcldaclkkaaaBehind
import Derived.Test.YtfkjcldaclkkaaaBehindS
namespace Go.Proofs.Ytfkjcldaclkkaaa
set_option linter.unusedVariables false
set_option maxRecDepth 100000
open Go.ChangeShapes Go.WideShapes Go.ChangeAt Go.RowKit

set_option maxHeartbeats 16000000 in
theorem exactFlowBehind_law (W : World) (v0 v1 : Value) (h0 : IsFlow W v0) (h1 : IsStr v1) : Calls Try.prog 9 #[v0, v1] W fun e W' => e = .returned (.bool true) ∧ Below W.heap.size W W' := by
  obtain ⟨ver0, A0, c0, ss0, rfl, hx0⟩ := h0
  have hlen0 := hx0.len
  have hcap0 := hx0.cap
  obtain ⟨s1, rfl, hx1⟩ := h1
  go_enter Try.func9, Try.ntmps9
  by_cases hlong1 : 1048576 < s1.size
  · go_wp2_with fail
    go_ret
    exact ⟨rfl, ((Below.refl _ _).alloc (Nat.le_refl _) _)⟩
  have b0 : Below W.heap.size W ((W.alloc (.cells #[.int .i64 ver0, .slice A0 ss0.length c0] 43))) := ((Below.refl _ _).alloc (Nat.le_refl _) _)
  obtain ⟨q_0, hq_0⟩ : ∃ q_0 : Nat, q_0 = 1048576 - (ss0.length + totSt ss0) := ⟨_, rfl⟩
  go_wp2_with fail
  refine (szFlow_any ver0 A0 c0 ss0 1048576 _ _ (hx0.alloc2 _) (by omega)).mono ?_
  rintro e w1 ⟨rfl, hbr1⟩
  have hb1 := bthen b0 hbr1
  have b1 := hb1
  have qa01 := (Cell2.new W (.int .i64 ver0) (.slice A0 ss0.length c0) 43).then_ hbr1
  have la0 := qa01.lt
  have z1 := hb1.size
  clear hbr1 hb1
  by_cases hbig0 : 1048576 < (ss0.length + totSt ss0)
  · rw [left_no hbig0]
    go_wp2_with fail
    go_ret
    exact ⟨rfl, b1⟩
  have hle0 : left 1048576 (ss0.length + totSt ss0) = (q_0 : Int) := by rw [left_ok (by omega)]; omega
  rw [hle0]
  have hq0 := Lib.hid hq_0
  have hqa0 : q_0 + (ss0.length + totSt ss0) ≤ 1048576 := by omega
  clear hq_0 hle0
  have hal0 := Lib.hid (flow_afters (ss := ss0) (by omega))
  have holen : (behOut ver0 ss0 s1).length ≤ 1048577 := by have := behOut_len ver0 ss0 s1; omega
  obtain ⟨pa010, pa011⟩ := id qa01
  go_wp2_with fail
  (with_reducible refine (toFlow_any ver0 A0 c0 ss0 _ _ (hx0.then_ b1) (by omega) hal0.out).mono ?_)
  rintro e w2 ⟨Au0, cu0, rfl, hou0, hbr2⟩
  have hb2 := hbr2
  have qa02 := qa01.then_ hb2
  have b2 := bthen b1 hb2
  have z2 := hb2.size
  clear qa01 b1 hbr2 hb2 pa010 pa011
  have ru02 := Below.refl w2.heap.size w2
  have hsu0 := hou0.sts
  have hobu0 := hou0.base_ (base' := w1.heap.size) (by simp)
  go_wp2_with fail
  (with_reducible refine (sFlowBehind_any ver0 Au0 cu0 ss0 s1 _ _ (hsu0.then_ ru02) (by omega)).mono ?_)
  rintro e w3 ⟨AR, cR, rfl, hoR, hbr3⟩
  have hb3 := hbr3
  have qa03 := qa02.then_ hb3
  have b3 := bthen b2 hb3
  have ru03 := bthen ru02 hb3
  have z3 := hb3.size
  clear qa02 b2 ru02 hbr3 hb3
  have rR3 := Below.refl w3.heap.size w3
  have hsR := hoR.strs
  obtain ⟨pa030, pa031⟩ := id qa03
  go_wp2_with fail
  (with_reducible refine (toFlow_any ver0 A0 c0 ss0 _ _ (hx0.then_ b3) (by omega) hal0.out).mono ?_)
  rintro e w4 ⟨Ax0, cx0, rfl, hox0, hbr4⟩
  have hb4 := hbr4
  have qa04 := qa03.then_ hb4
  have b4 := bthen b3 hb4
  have rR4 := bthen rR3 hb4
  have z4 := hb4.size
  clear qa03 b3 rR3 hbr4 hb4 pa030 pa031
  have rx04 := Below.refl w4.heap.size w4
  have hsx0 := hox0.sts
  have hobx0 := hox0.base_ (base' := w3.heap.size) (by simp)
  go_wp2_with fail
  (with_reducible refine (iFlowBehind_any ver0 Ax0 cx0 ss0 s1 _ _ ((hsx0.then_ rx04).alloc2 _) (by omega) (by omega)).mono ?_)
  rintro e w5 ⟨AG, cG, rfl, hoG, hbr5⟩
  have hb5 : Below w4.heap.size w4 w5 := bthen ((Below.refl _ _).alloc (Nat.le_refl _) _) hbr5
  have qa05 := qa04.then_ hb5
  have qx05 := (Cell2.new w4 (.int .i64 ver0) (.slice Ax0 ss0.length cx0) 25).then_ hbr5
  have lx0 := qx05.lt
  have b5 := bthen b4 hb5
  have rR5 := bthen rR4 hb5
  have rx05 := bthen rx04 hb5
  have z5 := hb5.size
  clear qa04 b4 rR4 rx04 hbr5 hb5
  have gG5 := hoG.base_ (base' := w4.heap.size + 1) (by simp)
  go_wp2_with fail
  (with_reducible refine (eqStringS_same AG AR cG cR (behOut ver0 ss0 s1) _ _ _ gG5.strs (hsR.then_ rR5)).mono ?_)
  rintro e w6 ⟨rfl, hbr6⟩
  have hb6 := hbr6
  have qa06 := qa05.then_ hb6
  have qx06 := qx05.then_ hb6
  have b6 := bthen b5 hb6
  have rR6 := bthen rR5 hb6
  have rx06 := bthen rx05 hb6
  have gG6 := gG5.below hb6
  have z6 := hb6.size
  clear qa05 qx05 b5 rR5 rx05 gG5 hbr6 hb6
  obtain ⟨pa060, pa061⟩ := id qa06
  obtain ⟨px060, px061⟩ := id qx06
  have K6 := Lib.hid (toFlow_any ver0 A0 c0 ss0 w6.drew _ (hx0.then_ b6).drew (by omega) hal0.out)
  go_wp2_with fail
  go_region_held3 (fun w' => w'.cell? ⟨W.heap.size, 0, none⟩ = some (.int .i64 ver0) ∧ w'.cell? ⟨W.heap.size, 1, none⟩ = some (.slice A0 ss0.length c0) ∧ w'.cell? ⟨w4.heap.size, 0, none⟩ = some (.int .i64 ver0) ∧ w'.cell? ⟨w4.heap.size, 1, none⟩ = some (.slice Ax0 ss0.length cx0)) (first | assumption | go_keep)
    (first
      | (go_at_call 28; (with_reducible refine K6.out.mono ?_); rintro e wm6 ⟨Am6, cm6, rfl, hom6, hbu6⟩; have hbm6 := Below.undrew hbu6; have Sm6 := (And.intro (qa06.then_ hbm6).c0 (And.intro (qa06.then_ hbm6).c1 (And.intro (qx06.then_ hbm6).c0 (qx06.then_ hbm6).c1))))
      | (go_at_call 30; (with_reducible refine (eqFlow_same ver0 Ax0 Am6 cx0 cm6 ss0 _ w6.heap.size _ ((hsx0.then_ rx06).then_ hbm6) hom6.sts).mono ?_); rintro e w7 ⟨rfl, hbn6⟩; have Sn6 := (And.intro ((qa06.then_ hbm6).then_ hbn6).c0 (And.intro ((qa06.then_ hbm6).then_ hbn6).c1 (And.intro ((qx06.then_ hbm6).then_ hbn6).c0 ((qx06.then_ hbm6).then_ hbn6).c1)))))
  have hbr7 := bthen hbm6 hbn6
  clear K6 Sm6 Sn6 hbn6 hbm6 hbu6 hom6
  have hb7 := hbr7
  have qa07 := qa06.then_ hb7
  have qx07 := qx06.then_ hb7
  have b7 := bthen b6 hb7
  have rR7 := bthen rR6 hb7
  have rx07 := bthen rx06 hb7
  have gG7 := gG6.below hb7
  have z7 := hb7.size
  clear qa06 qx06 b6 rR6 rx06 gG6 hbr7 hb7 pa060 pa061 px060 px061
  obtain ⟨px070, px071⟩ := id qx07
  go_wp2_with fail
  (with_reducible refine (markFlow_any ver0 Ax0 cx0 ss0 w4 w7 _ hobx0 rx07 (by omega)).mono ?_)
  rintro e w8 ⟨⟨m8, rfl, hm8, hm8'⟩, ht8⟩
  clear rx07 qx07
  have qa08 := qa07.betw ht8 (by omega)
  have b8 := b7.trans ((ht8.low (by omega)).mono (by omega))
  have rR8 := rR7.trans ((ht8.low (by omega)).mono (by omega))
  have gG8 := ht8.own gG7 (by omega)
  have z8 := ht8.size
  clear qa07 b7 rR7 gG7 ht8 px070 px071
  have hk0 : ¬ (m8 : Int) < 0 := by omega
  go_wp2_with fail
  (with_reducible refine (eqStringS_same AG AR cG cR (behOut ver0 ss0 s1) _ _ _ gG8.strs (hsR.then_ rR8)).mono ?_)
  rintro e w9 ⟨rfl, hbr9⟩
  have hb9 := hbr9
  have qa09 := qa08.then_ hb9
  have b9 := bthen b8 hb9
  have rR9 := bthen rR8 hb9
  have gG9 := gG8.below hb9
  have z9 := hb9.size
  clear qa08 b8 rR8 gG8 hbr9 hb9
  go_wp2_with fail
  (with_reducible refine (markStringS_one AG cG (behOut ver0 ss0 s1) _ _ gG9 (by omega)).mono ?_)
  rintro e w10 ⟨rfl, gM10, hg10⟩
  have ht10 : Betw (w4.heap.size + 1) (w5.heap.size) w9 w10 := mark_betw hoG hg10 (by simp)
  clear gG9 hg10
  have qa010 := qa09.betw ht10 (by omega)
  have b10 := b9.trans ((ht10.low (by omega)).mono (by omega))
  have rR10 := rR9.trans ((ht10.low (by omega)).mono (by omega))
  have z10 := ht10.size
  clear qa09 b9 rR9 ht10
  have gG10 := gM10
  clear gM10
  have hge : ¬ ((behOut ver0 ss0 s1).length : Int) + 1 < 0 := by omega
  go_wp2_with fail
  (with_reducible refine (heldStringS_one AG cG (behOut ver0 ss0 s1).length _ _ gG10.strs (by omega)).mono ?_)
  rintro e w11 ⟨rfl, hbr11⟩
  have hb11 := hbr11
  have qa011 := qa010.then_ hb11
  have b11 := bthen b10 hb11
  have rR11 := bthen rR10 hb11
  have gG11 := gG10.below hb11
  have z11 := hb11.size
  clear qa010 b10 rR10 gG10 hbr11 hb11
  obtain ⟨pa0110, pa0111⟩ := id qa011
  go_wp2_with fail
  (with_reducible refine (toFlow_any ver0 A0 c0 ss0 _ _ (hx0.then_ b11) (by omega) hal0.out).mono ?_)
  rintro e w12 ⟨Av0, cv0, rfl, hov0, hbr12⟩
  have hb12 := hbr12
  have qa012 := qa011.then_ hb12
  have b12 := bthen b11 hb12
  have rR12 := bthen rR11 hb12
  have gG12 := gG11.below hb12
  have z12 := hb12.size
  clear qa011 b11 rR11 gG11 hbr12 hb12 pa0110 pa0111
  have rv012 := Below.refl w12.heap.size w12
  have hsv0 := hov0.sts
  have hobv0 := hov0.base_ (base' := w11.heap.size) (by simp)
  go_wp2_with fail
  (with_reducible refine (iFlowBehind_any ver0 Av0 cv0 ss0 s1 _ _ (hsv0.then_ rv012) (by omega) (by omega)).mono ?_)
  rintro e w13 ⟨AH, cH, rfl, hoH, hbr13⟩
  have hb13 := hbr13
  have qa013 := qa012.then_ hb13
  have b13 := bthen b12 hb13
  have rR13 := bthen rR12 hb13
  have rv013 := bthen rv012 hb13
  have gG13 := gG12.below hb13
  have z13 := hb13.size
  clear qa012 b12 rR12 rv012 gG12 hbr13 hb13
  have gH13 := hoH.base_ (base' := w12.heap.size) (by simp)
  go_wp2_with fail
  (with_reducible refine (eqStringS_same AH AR cH cR (behOut ver0 ss0 s1) _ _ _ gH13.strs (hsR.then_ rR13)).mono ?_)
  rintro e w14 ⟨rfl, hbr14⟩
  have hb14 := hbr14
  have qa014 := qa013.then_ hb14
  have b14 := bthen b13 hb14
  have rR14 := bthen rR13 hb14
  have gG14 := gG13.below hb14
  have gH14 := gH13.below hb14
  have z14 := hb14.size
  clear qa013 b13 rR13 gG13 gH13 hbr14 hb14
  go_wp2_with fail
  (with_reducible refine (heldStringS_one AG cG (behOut ver0 ss0 s1).length _ _ gG14.strs (by omega)).mono ?_)
  rintro e w15 ⟨rfl, hbr15⟩
  have hb15 := hbr15
  have qa015 := qa014.then_ hb15
  have b15 := bthen b14 hb15
  have rR15 := bthen rR14 hb15
  have gG15 := gG14.below hb15
  have gH15 := gH14.below hb15
  have z15 := hb15.size
  clear qa014 b14 rR14 gG14 gH14 hbr15 hb15
  go_wp2_with fail
  go_ret
  exact ⟨rfl, b15⟩

set_option maxRecDepth 100000 in
theorem fnExactFlowBehind_lifted (os : Os) (started : os.Started) (H : Type) (enc : TypeId × Value → H) :
    ReturnsInHanded {} Try.checked os 9 .any (Rows.fnExactFlowBehindSpec.pre6 enc Try.prog Try.f9 Rows.fnExactFlowBehindRow.domain false) (Rows.fnExactFlowBehindSpec.post enc Try.prog Try.f9 false true false false) := by
  refine returnsInHanded_of_change (C := Try.checked) own started (by kernel_rfl) Try.func9
    (ChangeSpec.witness6 (enc := enc) (C := Try.checked) false ⟨#[], #[.agg #[.int .i64 0, .slice none 0 0], .string ⟨#[]⟩], []⟩ 8 (by kernel_rfl) (by kernel_rfl) (by kernel_rfl) (by kernel_rfl)) ?_
  intro W base args ds gs before hval0 hW _ _
  have hval : ∀ (j : Nat) t v, Try.f9.params[j]? = some t → args[j]? = some v → Value.okWide Try.prog W .any base t v := hval0
  obtain ⟨p, q, hA0, hV, _⟩ := id hW
  have hA : DataW.TrodAll enc Try.prog W 0 (fun _ => true) true Try.f9.params.toList args.toList ds p := hA0
  rw [Try.params9] at hA hval
  obtain ⟨v0, v1, d0, d1, p0, p1, rfl, rfl, rfl, h0, h1⟩ := trodAll_two hA
  obtain ⟨rfl, rfl⟩ := trodVars_none hV
  refine (exactFlowBehind_law W v0 v1 (arg_flow (hval 0 _ v0 rfl rfl) h0) (arg_string (hval 1 _ v1 rfl rfl) h1)).mono fun e W' ⟨he, hw⟩ => ?_
  subst he
  exact ⟨_, rfl, law_post laidOut (readable_of (by kernel_rfl)) rfl Try.underlying4 rfl rfl rfl rfl hW hw⟩

theorem fnExactFlowBehind_holds : Rows.FnExactFlowBehindSaid :=
  OpenClaim.holds_of_wide 9 Try.f9 rfl rfl rfl rfl rfl rfl rfl ⟨rfl, rfl, rfl, rfl, rfl⟩ rfl rfl rfl rfl rfl (by kernel_rfl) Try.func9 (by kernel_rfl)
    (of_decide_eq_true (by kernel_rfl)) (by unfold Func.isWrapper; rw [if_neg (of_decide_eq_false (by kernel_rfl))]; exact ⟨rfl, rfl⟩)
    (fun os started H enc _ => fnExactFlowBehind_lifted os started H enc)

end Go.Proofs.Ytfkjcldaclkkaaa
