/- FnName returns true for every code. No condition. -/
import Derived.Test.YtgdnpinlbbnbbaaArgs
import Derived.Test.YtgdnpinlbbnbbaaNames
import Derived.Test.YtgdnpinlbbnbbaaDrawNames
namespace Go.Proofs.Ytgdnpinlbbnbbaa
set_option linter.unusedVariables false
open Go.ChangeShapes Go.WideShapes Go.ChangeAt Go.RowKit

theorem name_law (W : World) (v : Value) (h : IsCode W v) : Calls Try.prog 5 #[v] W fun e W' => e = .returned (.bool true) ∧ Below W.heap.size W W' := by
  obtain ⟨A, c, zs, rfl, hz⟩ := h
  have hl := hz.len
  have hc := hz.cap
  by_cases h20 : 1048576 < zs.length
  · go_enter Try.func5, Try.ntmps5
    go_wp2
    go_ret
    exact ⟨rfl, Below.refl _ _⟩
  · go_enter Try.func5, Try.ntmps5
    go_wp2_with fail
    refine (drawNameValid_any A c zs W hz).mono ?_
    rintro e w1 ⟨s, rfl, hs, hb⟩
    have hs' : s.size ≤ 9223372036854775807 := by omega
    cases hok : nameOk s
    · go_wp2_with (first
        | (go_at_call 13; refine (sNameValid_any _ _ hs').mono ?_; rintro e w' ⟨rfl, rfl⟩)
        | (go_at_call 14; refine (iNameValid_any _ _ hs').mono ?_; rintro e w' ⟨rfl, rfl⟩))
      go_ret
      exact ⟨rfl, hb⟩
    · have k1 := nameOk_size hok
      have k2 := nameOk_blank s
      have k3 := nameOk_long k1.1
      have k4 := nameOk_first hok
      have z1 : (s ++ ⟨#[32]⟩).size ≤ 9223372036854775807 := by rw [ByteArray.size_append]; have : (⟨#[32]⟩ : ByteArray).size = 1 := rfl; omega
      have z2 : (s ++ ⟨#[97, 97, 97, 97, 97]⟩).size ≤ 9223372036854775807 := by rw [ByteArray.size_append]; have : (⟨#[97, 97, 97, 97, 97]⟩ : ByteArray).size = 5 := rfl; omega
      have z3 : (s.extract 0 1).size ≤ 9223372036854775807 := by rw [ByteArray.size_extract]; omega
      obtain ⟨k11, k12⟩ := k1
      go_wp2_with fail
      refine (iNameValid_any _ _ hs').mono ?_
      rintro e w' ⟨rfl, rfl⟩
      go_wp2_with fail
      refine (sNameValid_any _ _ hs').mono ?_
      rintro e w' ⟨rfl, rfl⟩
      go_wp2_with fail
      refine (iNameValid_any _ _ z1).mono ?_
      rintro e w' ⟨rfl, rfl⟩
      go_wp2_with fail
      refine (iNameValid_any _ _ z2).mono ?_
      rintro e w' ⟨rfl, rfl⟩
      go_wp2_with fail
      refine (iNameValid_any _ _ z3).mono ?_
      rintro e w' ⟨rfl, rfl⟩
      go_wp2_with fail
      go_ret
      exact ⟨rfl, hb⟩

set_option maxRecDepth 100000 in
theorem fnName_lifted (os : Os) (started : os.Started) (H : Type) (enc : TypeId × Value → H) :
    ReturnsInHanded {} Try.checked os 5 .any (Rows.fnNameSpec.pre6 enc Try.prog Try.f5 Rows.fnNameRow.domain false) (Rows.fnNameSpec.post enc Try.prog Try.f5 false true false false) := by
  refine returnsInHanded_of_change (C := Try.checked) own started (by kernel_rfl) Try.func5
    (ChangeSpec.witness6 (enc := enc) (C := Try.checked) false ⟨#[], #[.slice none 0 0], []⟩ 8 (by kernel_rfl) (by kernel_rfl) (by kernel_rfl) (by kernel_rfl)) ?_
  intro W base args ds gs before hval0 hW _ _
  have hval : ∀ (j : Nat) t v, Try.f5.params[j]? = some t → args[j]? = some v → Value.okWide Try.prog W .any base t v := hval0
  obtain ⟨p, q, hA0, hV, _⟩ := id hW
  have hA : DataW.TrodAll enc Try.prog W 0 (fun _ => true) true Try.f5.params.toList args.toList ds p := hA0
  rw [Try.params5] at hA hval
  obtain ⟨v0, d0, rfl, rfl, h0⟩ := trodAll_one hA
  obtain ⟨rfl, rfl⟩ := trodVars_none hV
  refine (name_law W v0 (arg_code (hval 0 _ v0 rfl rfl) h0)).mono fun e W' ⟨he, hw⟩ => ?_
  subst he
  exact ⟨_, rfl, law_post laidOut (readable_of (by kernel_rfl)) rfl Try.underlying4 rfl rfl rfl rfl hW hw⟩

theorem fnName_holds : Rows.FnNameSaid :=
  OpenClaim.holds_of_wide 5 Try.f5 rfl rfl rfl rfl rfl rfl rfl ⟨rfl, rfl, rfl, rfl, rfl⟩ rfl rfl rfl rfl rfl (by kernel_rfl) Try.func5 (by kernel_rfl)
    (of_decide_eq_true (by kernel_rfl)) (by unfold Func.isWrapper; rw [if_neg (of_decide_eq_false (by kernel_rfl))]; exact ⟨rfl, rfl⟩)
    (fun os started H enc _ => fnName_lifted os started H enc)

end Go.Proofs.Ytgdnpinlbbnbbaa
