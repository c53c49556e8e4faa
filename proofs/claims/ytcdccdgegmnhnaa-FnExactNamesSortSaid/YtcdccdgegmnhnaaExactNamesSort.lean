/- FnExactNamesSort returns true for all arguments. No condition. -/
import Derived.Test.YtcdccdgegmnhnaaArgs
import Derived.Test.YtcdccdgegmnhnaaExactWords
import Derived.Test.YtcdccdgegmnhnaaCopies
import Derived.Test.YtcdccdgegmnhnaaSortFns
namespace Go.Proofs.Ytcdccdgegmnhnaa
set_option linter.unusedVariables false
set_option maxRecDepth 100000
open Go.ChangeShapes Go.WideShapes Go.ChangeAt Go.RowKit

set_option maxHeartbeats 16000000 in
theorem exactNamesSort_law (W : World) (v0 : Value) (h0 : IsStrs W v0) : Calls Try.prog 4 #[v0] W fun e W' => e = .returned (.bool true) ∧ Below W.heap.size W W' := by
  obtain ⟨A0, c0, xs0, rfl, hx0⟩ := h0
  have hlen0 := hx0.len
  have hcap0 := hx0.cap
  have htot0 := tot_len xs0
  go_enter Try.func4, Try.ntmps4
  have b0 : Below W.heap.size W (W) := (Below.refl _ _)
  obtain ⟨q_0, hq_0⟩ : ∃ q_0 : Nat, q_0 = 1048576 - (tot xs0) := ⟨_, rfl⟩
  go_wp2_with fail
  refine (szStringS_any A0 c0 xs0 1048576 _ _ hx0 (by omega)).mono ?_
  rintro e w' ⟨rfl, rfl⟩
  by_cases hbig0 : 1048576 < (tot xs0)
  · rw [left_no hbig0]
    go_wp2_with fail
    go_ret
    exact ⟨rfl, b0⟩
  have hle0 : left 1048576 (tot xs0) = (q_0 : Int) := by rw [left_ok (by omega)]; omega
  rw [hle0]
  have hq0 := Lib.hid hq_0
  have hqa0 : q_0 + (tot xs0) ≤ 1048576 := by omega
  clear hq_0 hle0
  have holen : (sortOut xs0).length ≤ 1048576 := by have := sortOut_len xs0; omega
  go_wp2_with fail
  (with_reducible refine (toStringS_any A0 c0 xs0 _ _ (hx0.then_ b0) (by first | exact b0.size | (simp; try omega)) (by omega)).mono ?_)
  rintro e w1 ⟨Au0, cu0, rfl, hou0, hbr1⟩
  have hb1 := hbr1
  have b1 := bthen b0 hb1
  have z1 := hb1.size
  clear hbr1 hb1
  have gu01 := hou0.base_ (base' := W.heap.size) (by simp)
  go_wp2_with fail
  (with_reducible refine (sNamesSort_any Au0 cu0 xs0 _ _ gu01.strs (by omega)).mono ?_)
  rintro e w2 ⟨AR, cR, rfl, hoR, hbr2⟩
  have hb2 := hbr2
  have b2 := bthen b1 hb2
  have gu02 := gu01.below hb2
  have z2 := hb2.size
  clear b1 gu01 hbr2 hb2
  have rR2 := Below.refl w2.heap.size w2
  have hsR := hoR.strs
  go_wp2_with fail
  (with_reducible refine (toStringS_any A0 c0 xs0 _ _ (hx0.then_ b2) (by first | exact b2.size | (simp; try omega)) (by omega)).mono ?_)
  rintro e w3 ⟨Ax0, cx0, rfl, hox0, hbr3⟩
  have hb3 := hbr3
  have b3 := bthen b2 hb3
  have rR3 := bthen rR2 hb3
  have z3 := hb3.size
  clear b2 rR2 hbr3 hb3
  have gx03 := hox0.base_ (base' := w2.heap.size) (by simp)
  go_wp2_with fail
  (with_reducible refine (iNamesSort_any Ax0 cx0 xs0 _ _ gx03.strs (by omega)).mono ?_)
  rintro e w4 ⟨AG, cG, rfl, hoG, hbr4⟩
  have hb4 := hbr4
  have b4 := bthen b3 hb4
  have rR4 := bthen rR3 hb4
  have gx04 := gx03.below hb4
  have z4 := hb4.size
  clear b3 rR3 gx03 hbr4 hb4
  have gG4 := hoG.base_ (base' := w3.heap.size) (by simp)
  go_wp2_with fail
  (with_reducible refine (eqStringS_same AG AR cG cR (sortOut xs0) _ _ _ gG4.strs (hsR.then_ rR4)).mono ?_)
  rintro e w5 ⟨rfl, hbr5⟩
  have hb5 := hbr5
  have b5 := bthen b4 hb5
  have rR5 := bthen rR4 hb5
  have gx05 := gx04.below hb5
  have gG5 := gG4.below hb5
  have z5 := hb5.size
  clear b4 rR4 gx04 gG4 hbr5 hb5
  go_wp2_with fail
  (with_reducible refine (toStringS_any A0 c0 xs0 _ _ (hx0.then_ b5) (by first | exact b5.size | (simp; try omega)) (by omega)).mono ?_)
  rintro e w6 ⟨Ay0, cy0, rfl, hoy0, hbr6⟩
  have hb6 := hbr6
  have b6 := bthen b5 hb6
  have rR6 := bthen rR5 hb6
  have gx06 := gx05.below hb6
  have gG6 := gG5.below hb6
  have z6 := hb6.size
  clear b5 rR5 gx05 gG5 hbr6 hb6
  have gy06 := hoy0.base_ (base' := w5.heap.size) (by simp)
  go_wp2_with fail
  (with_reducible refine (eqStringS_same Ax0 Ay0 cx0 cy0 xs0 _ _ _ gx06.strs gy06.strs).mono ?_)
  rintro e w7 ⟨rfl, hbr7⟩
  have hb7 := hbr7
  have b7 := bthen b6 hb7
  have rR7 := bthen rR6 hb7
  have gx07 := gx06.below hb7
  have gG7 := gG6.below hb7
  have gy07 := gy06.below hb7
  have z7 := hb7.size
  clear b6 rR6 gx06 gG6 gy06 hbr7 hb7
  go_wp2_with fail
  (with_reducible refine (markStringS_one Ax0 cx0 xs0 _ _ gx07 (by omega)).mono ?_)
  rintro e w8 ⟨rfl, gM8, hg8⟩
  have ht8 : Betw (w2.heap.size) (w3.heap.size) w7 w8 := mark_betw hox0 hg8 (by simp)
  clear gM8 hg8 gx07
  have b8 := b7.trans ((ht8.low (by omega)).mono (by omega))
  have rR8 := rR7.trans ((ht8.low (by omega)).mono (by omega))
  have gG8 := ht8.own gG7 (by omega)
  have z8 := ht8.size
  clear b7 rR7 gG7 ht8
  go_wp2_with fail
  (with_reducible refine (eqStringS_same AG AR cG cR (sortOut xs0) _ _ _ gG8.strs (hsR.then_ rR8)).mono ?_)
  rintro e w9 ⟨rfl, hbr9⟩
  have hb9 := hbr9
  have b9 := bthen b8 hb9
  have rR9 := bthen rR8 hb9
  have gG9 := gG8.below hb9
  have z9 := hb9.size
  clear b8 rR8 gG8 hbr9 hb9
  go_wp2_with fail
  (with_reducible refine (markStringS_one AG cG (sortOut xs0) _ _ gG9 (by omega)).mono ?_)
  rintro e w10 ⟨rfl, gM10, hg10⟩
  have ht10 : Betw (w3.heap.size) (w4.heap.size) w9 w10 := mark_betw hoG hg10 (by simp)
  clear gG9 hg10
  have b10 := b9.trans ((ht10.low (by omega)).mono (by omega))
  have rR10 := rR9.trans ((ht10.low (by omega)).mono (by omega))
  have z10 := ht10.size
  clear b9 rR9 ht10
  have gG10 := gM10
  clear gM10
  have hge : ¬ ((sortOut xs0).length : Int) + 1 < 0 := by omega
  go_wp2_with fail
  (with_reducible refine (heldStringS_one AG cG (sortOut xs0).length _ _ gG10.strs (by omega)).mono ?_)
  rintro e w11 ⟨rfl, hbr11⟩
  have hb11 := hbr11
  have b11 := bthen b10 hb11
  have rR11 := bthen rR10 hb11
  have gG11 := gG10.below hb11
  have z11 := hb11.size
  clear b10 rR10 gG10 hbr11 hb11
  go_wp2_with fail
  (with_reducible refine (toStringS_any A0 c0 xs0 _ _ (hx0.then_ b11) (by first | exact b11.size | (simp; try omega)) (by omega)).mono ?_)
  rintro e w12 ⟨Av0, cv0, rfl, hov0, hbr12⟩
  have hb12 := hbr12
  have b12 := bthen b11 hb12
  have rR12 := bthen rR11 hb12
  have gG12 := gG11.below hb12
  have z12 := hb12.size
  clear b11 rR11 gG11 hbr12 hb12
  have gv012 := hov0.base_ (base' := w11.heap.size) (by simp)
  go_wp2_with fail
  (with_reducible refine (iNamesSort_any Av0 cv0 xs0 _ _ gv012.strs (by omega)).mono ?_)
  rintro e w13 ⟨AH, cH, rfl, hoH, hbr13⟩
  have hb13 := hbr13
  have b13 := bthen b12 hb13
  have rR13 := bthen rR12 hb13
  have gG13 := gG12.below hb13
  have gv013 := gv012.below hb13
  have z13 := hb13.size
  clear b12 rR12 gG12 gv012 hbr13 hb13
  have gH13 := hoH.base_ (base' := w12.heap.size) (by simp)
  go_wp2_with fail
  (with_reducible refine (eqStringS_same AH AR cH cR (sortOut xs0) _ _ _ gH13.strs (hsR.then_ rR13)).mono ?_)
  rintro e w14 ⟨rfl, hbr14⟩
  have hb14 := hbr14
  have b14 := bthen b13 hb14
  have rR14 := bthen rR13 hb14
  have gG14 := gG13.below hb14
  have gH14 := gH13.below hb14
  have z14 := hb14.size
  clear b13 rR13 gG13 gH13 hbr14 hb14
  go_wp2_with fail
  (with_reducible refine (heldStringS_one AG cG (sortOut xs0).length _ _ gG14.strs (by omega)).mono ?_)
  rintro e w15 ⟨rfl, hbr15⟩
  have hb15 := hbr15
  have b15 := bthen b14 hb15
  have rR15 := bthen rR14 hb15
  have gG15 := gG14.below hb15
  have gH15 := gH14.below hb15
  have z15 := hb15.size
  clear b14 rR14 gG14 gH14 hbr15 hb15
  go_wp2_with fail
  go_ret
  exact ⟨rfl, b15⟩

set_option maxRecDepth 100000 in
theorem fnExactNamesSort_lifted (os : Os) (started : os.Started) (H : Type) (enc : TypeId × Value → H) :
    ReturnsInHanded {} Try.checked os 4 .any (Rows.fnExactNamesSortSpec.pre6 enc Try.prog Try.f4 Rows.fnExactNamesSortRow.domain false) (Rows.fnExactNamesSortSpec.post enc Try.prog Try.f4 false true false false) := by
  refine returnsInHanded_of_change (C := Try.checked) own started (by kernel_rfl) Try.func4
    (ChangeSpec.witness6 (enc := enc) (C := Try.checked) false ⟨#[], #[.slice none 0 0], []⟩ 8 (by kernel_rfl) (by kernel_rfl) (by kernel_rfl) (by kernel_rfl)) ?_
  intro W base args ds gs before hval0 hW _ _
  have hval : ∀ (j : Nat) t v, Try.f4.params[j]? = some t → args[j]? = some v → Value.okWide Try.prog W .any base t v := hval0
  obtain ⟨p, q, hA0, hV, _⟩ := id hW
  have hA : DataW.TrodAll enc Try.prog W 0 (fun _ => true) true Try.f4.params.toList args.toList ds p := hA0
  rw [Try.params4] at hA hval
  obtain ⟨v0, d0, rfl, rfl, h0⟩ := trodAll_one hA
  obtain ⟨rfl, rfl⟩ := trodVars_none hV
  refine (exactNamesSort_law W v0 (arg_strs (hval 0 _ v0 rfl rfl) h0)).mono fun e W' ⟨he, hw⟩ => ?_
  subst he
  exact ⟨_, rfl, law_post laidOut (readable_of (by kernel_rfl)) rfl Try.underlying4 rfl rfl rfl rfl hW hw⟩

theorem fnExactNamesSort_holds : Rows.FnExactNamesSortSaid :=
  OpenClaim.holds_of_wide 4 Try.f4 rfl rfl rfl rfl rfl rfl rfl ⟨rfl, rfl, rfl, rfl, rfl⟩ rfl rfl rfl rfl rfl (by kernel_rfl) Try.func4 (by kernel_rfl)
    (of_decide_eq_true (by kernel_rfl)) (by unfold Func.isWrapper; rw [if_neg (of_decide_eq_false (by kernel_rfl))]; exact ⟨rfl, rfl⟩)
    (fun os started H enc _ => fnExactNamesSort_lifted os started H enc)

end Go.Proofs.Ytcdccdgegmnhnaa
