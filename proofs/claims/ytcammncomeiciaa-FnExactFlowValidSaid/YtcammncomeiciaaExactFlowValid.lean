/- FnExactFlowValid returns true for all flows. No condition. -/
import Derived.Test.YtcammncomeiciaaFlowArgs
import Derived.Test.YtcammncomeiciaaFlowCopies
import Derived.Test.YtcammncomeiciaaFlowValid
import Derived.Test.YtcammncomeiciaaSpecFlowValid
namespace Go.Proofs.Ytcammncomeiciaa
set_option linter.unusedVariables false
open Go.ChangeShapes Go.WideShapes Go.ChangeAt Go.RowKit

set_option maxHeartbeats 2000000 in
theorem exactFlowValid_law (W : World) (v : Value) (h : IsFlow W v) : Calls Try.prog 9 #[v] W fun e W' => e = .returned (.bool true) ∧ Below W.heap.size W W' := by
  obtain ⟨ver, A, c, ss, rfl, hx⟩ := h
  have h1 := hx.len
  have h2 := hx.cap
  have hab := hx.alloc (Nat.le_refl _) (.cells #[.int .i64 ver, .slice A ss.length c] 41)
  by_cases h20 : 1048576 < ss.length + totSt ss
  · have hl := left_no h20
    go_enter Try.func9, Try.ntmps9
    go_wp2_with fail
    refine (szFlow_any ver A c ss 1048576 _ _ hab (by omega)).mono ?_
    rintro e w1 ⟨rfl, hb1⟩
    go_wp2_with fail
    go_ret
    exact ⟨rfl, bthen ((Below.refl _ _).alloc (Nat.le_refl _) _) hb1⟩
  · have hl : 0 ≤ left 1048576 (ss.length + totSt ss) := by rw [left_ok (by omega)]; omega
    have hn : ss.length ≤ 1048576 := by omega
    have hal := Lib.hid (flow_afters (ss := ss) (by omega))
    go_enter Try.func9, Try.ntmps9
    go_wp2_with fail
    refine (szFlow_any ver A c ss 1048576 _ _ hab (by omega)).mono ?_
    rintro e w1 ⟨rfl, hb1⟩
    have b1 : Below W.heap.size W w1 := bthen ((Below.refl _ _).alloc (Nat.le_refl _) _) hb1
    have q1 := (Cell2.new W (.int .i64 ver) (.slice A ss.length c) 41).then_ hb1
    obtain ⟨q10, q11⟩ := id q1
    go_wp2_with fail
    refine (toFlow_any ver A c ss _ _ (hx.then_ b1) hn hal.out).mono ?_
    rintro e w2 ⟨A2, c2, rfl, ho2, hb2⟩
    have b2 := bthen b1 hb2
    have q2 := q1.then_ hb2
    clear q10 q11
    obtain ⟨q20, q21⟩ := id q2
    go_wp2_with fail
    refine (sFlowValid_any ver A2 c2 ss _ _ ho2.sts (by omega)).mono ?_
    rintro e w3 ⟨rfl, hb3⟩
    have b3 := bthen b2 hb3
    have q3 := q2.then_ hb3
    clear q20 q21
    obtain ⟨q30, q31⟩ := id q3
    go_wp2_with fail
    refine (toFlow_any ver A c ss _ _ (hx.then_ b3) hn hal.out).mono ?_
    rintro e w4 ⟨A4, c4, rfl, ho4, hb4⟩
    have b4 := bthen b3 hb4
    have q4 := q3.then_ hb4
    have s4 := ho4.sts
    clear q30 q31
    go_wp2_with fail
    refine (iFlowValid_any ver A4 c4 ss _ _ (s4.alloc (Nat.le_refl _) _)).mono ?_
    rintro e w5 ⟨rfl, hb5⟩
    have hb5' : Below w4.heap.size w4 w5 := bthen ((Below.refl _ _).alloc (Nat.le_refl _) _) hb5
    have b5 := bthen b4 hb5'
    have q5 := q4.then_ hb5'
    have x5 := (Cell2.new w4 (.int .i64 ver) (.slice A4 ss.length c4) 25).then_ hb5
    have s5 := s4.then_ hb5'
    have K5 := Lib.hid (toFlow_any ver A c ss w5.drew _ ((hx.then_ b5).drew) hn hal.out)
    clear hb1 hb2 hb3 hb4 hb5 hb5' ho2 ho4 q1 q2 q3 q4
    obtain ⟨q50, q51⟩ := id q5
    obtain ⟨x50, x51⟩ := id x5
    cases hok : flowOk ver ss
    all_goals
      go_wp2_with fail
      go_region_held3 (fun w' => w'.cell? ⟨W.heap.size, 0, none⟩ = some (.int .i64 ver) ∧ w'.cell? ⟨W.heap.size, 1, none⟩ = some (.slice A ss.length c) ∧ w'.cell? ⟨w4.heap.size, 0, none⟩ = some (.int .i64 ver) ∧ w'.cell? ⟨w4.heap.size, 1, none⟩ = some (.slice A4 ss.length c4)) (first | assumption | go_keep)
        (first
          | (go_at_call 28; (with_reducible refine K5.out.mono ?_); rintro e w6 ⟨A6, c6, rfl, ho6, hb6⟩; have hb56 := Below.undrew hb6; have S6 := And.intro (q5.then_ hb56).c0 (And.intro (q5.then_ hb56).c1 (And.intro (x5.then_ hb56).c0 (x5.then_ hb56).c1)))
          | (go_at_call 29; (with_reducible refine (eqFlow_same ver A4 A6 c4 c6 ss _ w5.heap.size _ (s5.then_ hb56) ho6.sts).mono ?_); rintro e w7 ⟨rfl, hb7⟩; have S7 := And.intro ((q5.then_ hb56).then_ hb7).c0 (And.intro ((q5.then_ hb56).then_ hb7).c1 (And.intro ((x5.then_ hb56).then_ hb7).c0 ((x5.then_ hb56).then_ hb7).c1))))
      go_wp2_with fail
      go_ret
      exact ⟨rfl, bthen (bthen b5 hb56) hb7⟩

set_option maxRecDepth 100000 in
theorem fnExactFlowValid_lifted (os : Os) (started : os.Started) (H : Type) (enc : TypeId × Value → H) :
    ReturnsInHanded {} Try.checked os 9 .any (Rows.fnExactFlowValidSpec.pre6 enc Try.prog Try.f9 Rows.fnExactFlowValidRow.domain false) (Rows.fnExactFlowValidSpec.post enc Try.prog Try.f9 false true false false) := by
  refine returnsInHanded_of_change (C := Try.checked) own started (by kernel_rfl) Try.func9
    (ChangeSpec.witness6 (enc := enc) (C := Try.checked) false ⟨#[], #[.agg #[.int .i64 0, .slice none 0 0]], []⟩ 8 (by kernel_rfl) (by kernel_rfl) (by kernel_rfl) (by kernel_rfl)) ?_
  intro W base args ds gs before hval0 hW _ _
  have hval : ∀ (j : Nat) t v, Try.f9.params[j]? = some t → args[j]? = some v → Value.okWide Try.prog W .any base t v := hval0
  obtain ⟨p, q, hA0, hV, _⟩ := id hW
  have hA : DataW.TrodAll enc Try.prog W 0 (fun _ => true) true Try.f9.params.toList args.toList ds p := hA0
  rw [Try.params9] at hA hval
  obtain ⟨v0, d0, rfl, rfl, h0⟩ := trodAll_one hA
  obtain ⟨rfl, rfl⟩ := trodVars_none hV
  refine (exactFlowValid_law W v0 (arg_flow (hval 0 _ v0 rfl rfl) h0)).mono fun e W' ⟨he, hw⟩ => ?_
  subst he
  exact ⟨_, rfl, law_post laidOut (readable_of (by kernel_rfl)) rfl Try.underlying4 rfl rfl rfl rfl hW hw⟩

theorem fnExactFlowValid_holds : Rows.FnExactFlowValidSaid :=
  OpenClaim.holds_of_wide 9 Try.f9 rfl rfl rfl rfl rfl rfl rfl ⟨rfl, rfl, rfl, rfl, rfl⟩ rfl rfl rfl rfl rfl (by kernel_rfl) Try.func9 (by kernel_rfl)
    (of_decide_eq_true (by kernel_rfl)) (by unfold Func.isWrapper; rw [if_neg (of_decide_eq_false (by kernel_rfl))]; exact ⟨rfl, rfl⟩)
    (fun os started H enc _ => fnExactFlowValid_lifted os started H enc)

end Go.Proofs.Ytcammncomeiciaa
