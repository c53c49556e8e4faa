/- FnExactNamesHave returns true for all lists of names. No condition. -/
import Derived.Test.YtgdnpinlbbnbbaaArgs
import Derived.Test.YtgdnpinlbbnbbaaNames
import Derived.Test.YtgdnpinlbbnbbaaCopies
namespace Go.Proofs.Ytgdnpinlbbnbbaa
set_option linter.unusedVariables false
open Go.ChangeShapes Go.WideShapes Go.ChangeAt Go.RowKit

set_option maxHeartbeats 1000000 in
theorem exactNamesHave_law (W : World) (v v' : Value) (h : IsStrs W v) (h' : IsStrs W v') : Calls Try.prog 6 #[v, v'] W fun e W' => e = .returned (.bool true) ∧ Below W.heap.size W W' := by
  obtain ⟨A, c, xs, rfl, hx⟩ := h
  obtain ⟨A', c', ys, rfl, hy⟩ := h'
  by_cases h1 : 1048576 < tot xs
  · have hl := left_no h1
    go_enter Try.func6, Try.ntmps6
    go_wp2_with fail
    refine (szStringS_any A c xs 1048576 _ _ hx (by omega)).mono ?_
    rintro e w' ⟨rfl, rfl⟩
    go_wp2_with fail
    go_ret
    exact ⟨rfl, Below.refl _ _⟩
  · have hl := left_ok (l := 1048576) (t := tot xs) (by omega)
    obtain ⟨q, hq⟩ : ∃ q : Nat, q = 1048576 - tot xs := ⟨_, rfl⟩
    have hl' : left 1048576 (tot xs) = (q : Int) := by rw [hl]; omega
    clear hl
    have hxl := tot_len xs
    have hyl := tot_len ys
    have hxn : xs.length ≤ 1048576 := by omega
    have Hq := Lib.hid hq
    clear hq
    by_cases h2 : q < tot ys
    · have hl2 := left_no h2
      go_enter Try.func6, Try.ntmps6
      go_wp2_with fail
      refine (szStringS_any A c xs 1048576 _ _ hx (by omega)).mono ?_
      rintro e w' ⟨rfl, rfl⟩
      go_wp2_with fail
      refine (szStringS_any A' c' ys q _ _ hy (by have := Hq.out; omega)).mono ?_
      rintro e w' ⟨rfl, rfl⟩
      go_wp2_with fail
      go_ret
      exact ⟨rfl, Below.refl _ _⟩
    · have hl2 : 0 ≤ left q (tot ys) := by rw [left_ok (by omega)]; omega
      have hyn : ys.length ≤ 1048576 := by have := Hq.out; omega
      go_enter Try.func6, Try.ntmps6
      go_wp2_with fail
      refine (szStringS_any A c xs 1048576 _ _ hx (by omega)).mono ?_
      rintro e w' ⟨rfl, rfl⟩
      go_wp2_with fail
      refine (szStringS_any A' c' ys q _ _ hy (by have := Hq.out; omega)).mono ?_
      rintro e w' ⟨rfl, rfl⟩
      go_wp2_with fail
      refine (toStringS_any A c xs _ _ hx (Nat.le_refl _) hxn).mono ?_
      rintro e w1 ⟨A1, c1, rfl, ho1, hb1⟩
      go_wp2_with fail
      refine (toStringS_any A' c' ys _ _ (hy.then_ hb1) hb1.size hyn).mono ?_
      rintro e w2 ⟨A2, c2, rfl, ho2, hb2⟩
      go_wp2_with fail
      refine (sNamesHave_any A1 A2 c1 c2 xs ys _ _ _ (ho1.below hb2).strs ho2.strs).mono ?_
      rintro e w' ⟨rfl, rfl⟩
      have b2 := bthen hb1 hb2
      go_wp2_with fail
      refine (toStringS_any A c xs _ _ (hx.then_ b2) b2.size hxn).mono ?_
      rintro e w3 ⟨A3, c3, rfl, ho3, hb3⟩
      have b3 := bthen b2 hb3
      go_wp2_with fail
      refine (toStringS_any A' c' ys _ _ (hy.then_ b3) b3.size hyn).mono ?_
      rintro e w4 ⟨A4, c4, rfl, ho4, hb4⟩
      have b4 := bthen b3 hb4
      have s3 := (ho3.below hb4).strs
      have s4 := ho4.strs
      go_wp2_with fail
      refine (iNamesHave_any A3 A4 c3 c4 xs ys _ _ _ s3 s4).mono ?_
      rintro e w' ⟨rfl, rfl⟩
      cases hok : haveAll xs ys
      all_goals
        go_wp2_with fail
        refine (toStringS_any A c xs _ _ (hx.then_ b4) b4.size hxn).mono ?_
        rintro e w5 ⟨A5, c5, rfl, ho5, hb5⟩
        have b5 := bthen b4 hb5
        go_wp2_with fail
        refine (eqStringS_any A3 A5 c3 c5 xs xs _ _ _ (s3.then_ hb5) ho5.strs).mono ?_
        rintro e w6 ⟨rfl, hb6⟩
        have b6 := bthen b5 hb6
        go_wp2_with fail
        refine (toStringS_any A' c' ys _ _ (hy.then_ b6) b6.size hyn).mono ?_
        rintro e w7 ⟨A7, c7, rfl, ho7, hb7⟩
        have b7 := bthen b6 hb7
        go_wp2_with fail
        refine (eqStringS_any A4 A7 c4 c7 ys ys _ _ _ ((s4.then_ (bthen hb5 hb6)).then_ hb7) ho7.strs).mono ?_
        rintro e w8 ⟨rfl, hb8⟩
        go_wp2_with fail
        go_ret
        exact ⟨rfl, bthen b7 hb8⟩

set_option maxRecDepth 100000 in
theorem fnExactNamesHave_lifted (os : Os) (started : os.Started) (H : Type) (enc : TypeId × Value → H) :
    ReturnsInHanded {} Try.checked os 6 .any (Rows.fnExactNamesHaveSpec.pre6 enc Try.prog Try.f6 Rows.fnExactNamesHaveRow.domain false) (Rows.fnExactNamesHaveSpec.post enc Try.prog Try.f6 false true false false) := by
  refine returnsInHanded_of_change (C := Try.checked) own started (by kernel_rfl) Try.func6
    (ChangeSpec.witness6 (enc := enc) (C := Try.checked) false ⟨#[], #[.slice none 0 0, .slice none 0 0], []⟩ 8 (by kernel_rfl) (by kernel_rfl) (by kernel_rfl) (by kernel_rfl)) ?_
  intro W base args ds gs before hval0 hW _ _
  have hval : ∀ (j : Nat) t v, Try.f6.params[j]? = some t → args[j]? = some v → Value.okWide Try.prog W .any base t v := hval0
  obtain ⟨p, q, hA0, hV, _⟩ := id hW
  have hA : DataW.TrodAll enc Try.prog W 0 (fun _ => true) true Try.f6.params.toList args.toList ds p := hA0
  rw [Try.params6] at hA hval
  obtain ⟨v0, v1, d0, d1, p0, p1, rfl, rfl, rfl, h0, h1⟩ := trodAll_two hA
  obtain ⟨rfl, rfl⟩ := trodVars_none hV
  refine (exactNamesHave_law W v0 v1 (arg_strs (hval 0 _ v0 rfl rfl) h0) (arg_strs (hval 1 _ v1 rfl rfl) h1)).mono fun e W' ⟨he, hw⟩ => ?_
  subst he
  exact ⟨_, rfl, law_post laidOut (readable_of (by kernel_rfl)) rfl Try.underlying4 rfl rfl rfl rfl hW hw⟩

theorem fnExactNamesHave_holds : Rows.FnExactNamesHaveSaid :=
  OpenClaim.holds_of_wide 6 Try.f6 rfl rfl rfl rfl rfl rfl rfl ⟨rfl, rfl, rfl, rfl, rfl⟩ rfl rfl rfl rfl rfl (by kernel_rfl) Try.func6 (by kernel_rfl)
    (of_decide_eq_true (by kernel_rfl)) (by unfold Func.isWrapper; rw [if_neg (of_decide_eq_false (by kernel_rfl))]; exact ⟨rfl, rfl⟩)
    (fun os started H enc _ => fnExactNamesHave_lifted os started H enc)

end Go.Proofs.Ytgdnpinlbbnbbaa
