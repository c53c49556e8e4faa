/- FnExactEventsValid returns true for all events. No condition. -/
import Derived.Test.YtgdnpinlbbnbbaaEvArgs
import Derived.Test.YtgdnpinlbbnbbaaEvents
import Derived.Test.YtgdnpinlbbnbbaaEvCopies
namespace Go.Proofs.Ytgdnpinlbbnbbaa
set_option linter.unusedVariables false
open Go.ChangeShapes Go.WideShapes Go.ChangeAt Go.RowKit

set_option maxHeartbeats 1000000 in
theorem exactEventsValid_law (W : World) (v : Value) (h : IsEvs W v) : Calls Try.prog 10 #[v] W fun e W' => e = .returned (.bool true) ∧ Below W.heap.size W W' := by
  obtain ⟨A, c, es, rfl, hx⟩ := h
  have h1 := hx.len
  have h2 := hx.cap
  by_cases h20 : 1048576 < es.length + totE es
  · have hl := left_no h20
    go_enter Try.func10, Try.ntmps10
    go_wp2_with fail
    refine (szEventS_any A c es 1048576 _ _ hx (by omega)).mono ?_
    rintro e w1 ⟨rfl, hb1⟩
    go_wp2_with fail
    go_ret
    exact ⟨rfl, hb1⟩
  · have hl : 0 ≤ left 1048576 (es.length + totE es) := by rw [left_ok (by omega)]; omega
    have hn : es.length ≤ 1048576 := by omega
    go_enter Try.func10, Try.ntmps10
    go_wp2_with fail
    refine (szEventS_any A c es 1048576 _ _ hx (by omega)).mono ?_
    rintro e w1 ⟨rfl, hb1⟩
    go_wp2_with fail
    (with_reducible refine (toEventS_any A c es _ _ (hx.then_ hb1) hn).mono ?_)
    rintro e w2 ⟨A2, c2, rfl, ho2, hb2⟩
    have b2 := bthen hb1 hb2
    go_wp2_with fail
    (with_reducible refine (sEventsValid_any A2 c2 es _ _ ho2.evs).mono ?_)
    rintro e w' ⟨rfl, rfl⟩
    go_wp2_with fail
    (with_reducible refine (toEventS_any A c es _ _ (hx.then_ b2) hn).mono ?_)
    rintro e w3 ⟨A3, c3, rfl, ho3, hb3⟩
    have b3 := bthen b2 hb3
    have s3 := ho3.evs
    go_wp2_with fail
    (with_reducible refine (iEventsValid_any A3 c3 es _ _ s3).mono ?_)
    rintro e w4 ⟨rfl, hb4⟩
    have b4 := bthen b3 hb4
    cases hok : evsOk es
    all_goals
      go_wp2_with fail
      (with_reducible refine (toEventS_any A c es _ _ (hx.then_ b4) hn).mono ?_)
      rintro e w5 ⟨A5, c5, rfl, ho5, hb5⟩
      have b5 := bthen b4 hb5
      go_wp2_with fail
      (with_reducible refine (eqEventS_any A3 A5 c3 c5 es es _ _ _ (s3.then_ (bthen hb4 hb5)) ho5.evs true (Lib.hid (by simp))).mono ?_)
      rintro e w6 ⟨rfl, hb6⟩
      go_wp2_with fail
      go_ret
      exact ⟨rfl, bthen b5 hb6⟩

set_option maxRecDepth 100000 in
theorem fnExactEventsValid_lifted (os : Os) (started : os.Started) (H : Type) (enc : TypeId × Value → H) :
    ReturnsInHanded {} Try.checked os 10 .any (Rows.fnExactEventsValidSpec.pre6 enc Try.prog Try.f10 Rows.fnExactEventsValidRow.domain false) (Rows.fnExactEventsValidSpec.post enc Try.prog Try.f10 false true false false) := by
  refine returnsInHanded_of_change (C := Try.checked) own started (by kernel_rfl) Try.func10
    (ChangeSpec.witness6 (enc := enc) (C := Try.checked) false ⟨#[], #[.slice none 0 0], []⟩ 8 (by kernel_rfl) (by kernel_rfl) (by kernel_rfl) (by kernel_rfl)) ?_
  intro W base args ds gs before hval0 hW _ _
  have hval : ∀ (j : Nat) t v, Try.f10.params[j]? = some t → args[j]? = some v → Value.okWide Try.prog W .any base t v := hval0
  obtain ⟨p, q, hA0, hV, _⟩ := id hW
  have hA : DataW.TrodAll enc Try.prog W 0 (fun _ => true) true Try.f10.params.toList args.toList ds p := hA0
  rw [Try.params10] at hA hval
  obtain ⟨v0, d0, rfl, rfl, h0⟩ := trodAll_one hA
  obtain ⟨rfl, rfl⟩ := trodVars_none hV
  refine (exactEventsValid_law W v0 (arg_events (hval 0 _ v0 rfl rfl) h0)).mono fun e W' ⟨he, hw⟩ => ?_
  subst he
  exact ⟨_, rfl, law_post laidOut (readable_of (by kernel_rfl)) rfl Try.underlying4 rfl rfl rfl rfl hW hw⟩

theorem fnExactEventsValid_holds : Rows.FnExactEventsValidSaid :=
  OpenClaim.holds_of_wide 10 Try.f10 rfl rfl rfl rfl rfl rfl rfl ⟨rfl, rfl, rfl, rfl, rfl⟩ rfl rfl rfl rfl rfl (by kernel_rfl) Try.func10 (by kernel_rfl)
    (of_decide_eq_true (by kernel_rfl)) (by unfold Func.isWrapper; rw [if_neg (of_decide_eq_false (by kernel_rfl))]; exact ⟨rfl, rfl⟩)
    (fun os started H enc _ => fnExactEventsValid_lifted os started H enc)

end Go.Proofs.Ytgdnpinlbbnbbaa
