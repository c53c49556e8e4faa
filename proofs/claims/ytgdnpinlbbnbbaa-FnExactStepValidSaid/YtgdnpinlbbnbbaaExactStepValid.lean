/- FnExactStepValid returns true for all steps. No condition. -/
import Derived.Test.YtgdnpinlbbnbbaaStepArgs
import Derived.Test.YtgdnpinlbbnbbaaStepCopies
import Derived.Deep.RegionWith
namespace Go.Proofs.Ytgdnpinlbbnbbaa
set_option linter.unusedVariables false
open Go.ChangeShapes Go.WideShapes Go.ChangeAt Go.RowKit

set_option maxHeartbeats 1000000 in
theorem exactStepValid_law (W : World) (v : Value) (h : IsStep W v) : Calls Try.prog 12 #[v] W fun e W' => e = .returned (.bool true) ∧ Below W.heap.size W W' := by
  obtain ⟨nm, A, c, xs, u, rfl, hs, hx⟩ := h
  have h1 := hx.len
  have h2 := hx.cap
  have hxl := tot_len xs
  have hab := hx.alloc (Nat.le_refl _) (.cells #[.string nm, .slice A xs.length c, .bool u] 49)
  by_cases h20 : 1048576 < nm.size + tot xs
  · have hl := left_no h20
    go_enter Try.func12, Try.ntmps12
    go_wp2_with fail
    refine (szStep_any nm A c xs u 1048576 _ _ hab hs (by omega)).mono ?_
    rintro e w1 ⟨rfl, hb1⟩
    go_wp2_with fail
    go_ret
    exact ⟨rfl, bthen ((Below.refl _ _).alloc (Nat.le_refl _) _) hb1⟩
  · have hl : 0 ≤ left 1048576 (nm.size + tot xs) := by rw [left_ok (by omega)]; omega
    have hn : xs.length ≤ 1048576 := by omega
    go_enter Try.func12, Try.ntmps12
    go_wp2_with fail
    refine (szStep_any nm A c xs u 1048576 _ _ hab hs (by omega)).mono ?_
    rintro e w1 ⟨rfl, hb1⟩
    have b1 : Below W.heap.size W w1 := bthen ((Below.refl _ _).alloc (Nat.le_refl _) _) hb1
    have q1 := (Cell3.new W (.string nm) (.slice A xs.length c) (.bool u) 49).then_ hb1
    obtain ⟨q10, q11, q12⟩ := id q1
    go_wp2_with fail
    refine (toStep_any nm A c xs u _ _ (hx.then_ b1) hn).mono ?_
    rintro e w2 ⟨A2, c2, rfl, ho2, hb2⟩
    have b2 := bthen b1 hb2
    have q2 := q1.then_ hb2
    clear q10 q11 q12
    obtain ⟨q20, q21, q22⟩ := id q2
    go_wp2_with fail
    refine (sStepValid_any nm A2 c2 xs u _ _ ho2.strs hs).mono ?_
    rintro e w3 ⟨rfl, hb3⟩
    have b3 := bthen b2 hb3
    have q3 := q2.then_ hb3
    clear q20 q21 q22
    obtain ⟨q30, q31, q32⟩ := id q3
    go_wp2_with fail
    refine (toStep_any nm A c xs u _ _ (hx.then_ b3) hn).mono ?_
    rintro e w4 ⟨A4, c4, rfl, ho4, hb4⟩
    have b4 := bthen b3 hb4
    have q4 := q3.then_ hb4
    have s4 := ho4.strs
    clear q30 q31 q32
    go_wp2_with fail
    refine (iStepValid_any nm A4 c4 xs u _ _ (s4.alloc (Nat.le_refl _) _) hs).mono ?_
    rintro e w5 ⟨rfl, hb5⟩
    have hb5' : Below w4.heap.size w4 w5 := bthen ((Below.refl _ _).alloc (Nat.le_refl _) _) hb5
    have b5 := bthen b4 hb5'
    have q5 := q4.then_ hb5'
    have x5 := (Cell3.new w4 (.string nm) (.slice A4 xs.length c4) (.bool u) 46).then_ hb5
    obtain ⟨q50, q51, q52⟩ := id q5
    obtain ⟨x50, x51, x52⟩ := id x5
    have s5 := s4.then_ hb5'
    have K5 := Lib.hid (toStep_any nm A c xs u w5.drew _ ((hx.then_ b5).drew) hn)
    clear hb1 hb2 hb3 hb4 hb5 hb5' ho2 ho4 q1 q2 q3 q4
    cases hok : stepOk nm xs
    all_goals
      go_wp2_with fail
      go_region_with (first
        | (go_at_call 33; (with_reducible refine K5.out.mono ?_); rintro e w6 ⟨A6, c6, rfl, ho6, hb6⟩; obtain ⟨y0, y1, y2⟩ := x5.then_ (w' := w6) ⟨hb6.os, hb6.tape, hb6.output, hb6.size, hb6.block⟩)
        | (go_at_call 34; (with_reducible refine (eqStep_any nm nm A4 A6 c4 c6 xs xs u u _ w5.heap.size _ ?_ ho6.strs true (Lib.hid (by simp))).mono ?_); exact s5.fit.below ⟨hb6.os, hb6.tape, hb6.output, hb6.size, hb6.block⟩; rintro e w7 ⟨rfl, hb7⟩))
    all_goals
      have hb56 : Below w5.heap.size w5 w6 := ⟨hb6.os, hb6.tape, hb6.output, hb6.size, hb6.block⟩
      go_wp2_with fail
      go_ret
      exact ⟨rfl, bthen (bthen b5 hb56) hb7⟩

set_option maxRecDepth 100000 in
theorem fnExactStepValid_lifted (os : Os) (started : os.Started) (H : Type) (enc : TypeId × Value → H) :
    ReturnsInHanded {} Try.checked os 12 .any (Rows.fnExactStepValidSpec.pre6 enc Try.prog Try.f12 Rows.fnExactStepValidRow.domain false) (Rows.fnExactStepValidSpec.post enc Try.prog Try.f12 false true false false) := by
  refine returnsInHanded_of_change (C := Try.checked) own started (by kernel_rfl) Try.func12
    (ChangeSpec.witness6 (enc := enc) (C := Try.checked) false ⟨#[], #[.agg #[.string ⟨#[]⟩, .slice none 0 0, .bool false]], []⟩ 8 (by kernel_rfl) (by kernel_rfl) (by kernel_rfl) (by kernel_rfl)) ?_
  intro W base args ds gs before hval0 hW _ _
  have hval : ∀ (j : Nat) t v, Try.f12.params[j]? = some t → args[j]? = some v → Value.okWide Try.prog W .any base t v := hval0
  obtain ⟨p, q, hA0, hV, _⟩ := id hW
  have hA : DataW.TrodAll enc Try.prog W 0 (fun _ => true) true Try.f12.params.toList args.toList ds p := hA0
  rw [Try.params12] at hA hval
  obtain ⟨v0, d0, rfl, rfl, h0⟩ := trodAll_one hA
  obtain ⟨rfl, rfl⟩ := trodVars_none hV
  refine (exactStepValid_law W v0 (arg_step (hval 0 _ v0 rfl rfl) h0)).mono fun e W' ⟨he, hw⟩ => ?_
  subst he
  exact ⟨_, rfl, law_post laidOut (readable_of (by kernel_rfl)) rfl Try.underlying4 rfl rfl rfl rfl hW hw⟩

theorem fnExactStepValid_holds : Rows.FnExactStepValidSaid :=
  OpenClaim.holds_of_wide 12 Try.f12 rfl rfl rfl rfl rfl rfl rfl ⟨rfl, rfl, rfl, rfl, rfl⟩ rfl rfl rfl rfl rfl (by kernel_rfl) Try.func12 (by kernel_rfl)
    (of_decide_eq_true (by kernel_rfl)) (by unfold Func.isWrapper; rw [if_neg (of_decide_eq_false (by kernel_rfl))]; exact ⟨rfl, rfl⟩)
    (fun os started H enc _ => fnExactStepValid_lifted os started H enc)

end Go.Proofs.Ytgdnpinlbbnbbaa
