/- FnBehindOrder returns true for every code. No condition. -/
import Derived.Test.YtfkjcldaclkkaaaArgs
import Derived.Test.YtfkjcldaclkkaaaTexts
import Derived.Test.YtfkjcldaclkkaaaRunTexts
import Derived.Test.YtfkjcldaclkkaaaFind
import Derived.Test.YtfkjcldaclkkaaaSameStep
import Derived.Test.YtfkjcldaclkkaaaDrawFind
import Derived.Test.YtfkjcldaclkkaaaBehind
import Derived.Test.YtfkjcldaclkkaaaBehindS
import Derived.Test.YtfkjcldaclkkaaaBehindPlain
import Derived.Test.YtfkjcldaclkkaaaFlowFns
namespace Go.Proofs.Ytfkjcldaclkkaaa
set_option linter.unusedVariables false
set_option maxRecDepth 100000
open Go.ChangeShapes Go.WideShapes Go.ChangeAt Go.RowKit

set_option maxHeartbeats 8000000 in
theorem behindOrder_law (W : World) (v : Value) (h : IsCode W v) : Calls Try.prog 6 #[v] W fun e W' => e = .returned (.bool true) ∧ Below W.heap.size W W' := by
  obtain ⟨A, c, zs, rfl, hz⟩ := h
  have hl := hz.len
  have hc := hz.cap
  by_cases h20 : 1048576 < zs.length
  · go_enter Try.func6, Try.ntmps6
    go_wp2
    go_ret
    exact ⟨rfl, Below.refl _ _⟩
  go_enter Try.func6, Try.ntmps6
  go_wp2_with fail
  (with_reducible refine (drawFlowBehind_any A c zs W hz).mono ?_)
  rintro e w1 ⟨ver, SA, sc, ss, nm, rfl, hnm, hT, b_1⟩
  have hst := hT.sts
  have h1 := hT.one
  have h6 := hT.six
  have hss : ss.length ≤ 2000000 := by omega
  have Hsm := Lib.hid hT.small
  clear hT
  have hnm9 : nm.size ≤ 9223372036854775807 := by omega
  have st_1 := hst
  clear hst
  go_wp2_with fail
  (with_reducible refine (iFlowBehind_any ver SA sc ss nm _ _ (st_1.alloc2 _) hnm9 hss).mono ?_)
  rintro e w2 ⟨A2, c2, rfl, ho2, hr2⟩
  have hb2 : Below w1.heap.size w1 w2 := bthen ((Below.refl _ _).alloc (Nat.le_refl _) _) hr2
  have st_2 := st_1.then_ hb2
  have qf_2 := (Cell2.new w1 (.int .i64 ver) (.slice SA ss.length sc) 25).then_ hr2
  have b_2 := bthen b_1 hb2
  have z_2 := hb2.size
  clear st_1 b_1 hr2 hb2
  have o_2 := ho2.strs
  clear ho2
  obtain ⟨pf20, pf21⟩ := id qf_2
  go_wp2_with fail
  (with_reducible refine (sFlowBehind_any ver SA sc ss nm _ _ st_2 hss).mono ?_)
  rintro e w3 ⟨A3, c3, rfl, ho3, hr3⟩
  have hb3 : Below w2.heap.size w2 w3 := hr3
  have st_3 := st_2.then_ hb3
  have o_3 := o_2.then_ hb3
  have qf_3 := qf_2.then_ hb3
  have b_3 := bthen b_2 hb3
  have z_3 := hb3.size
  clear st_2 o_2 qf_2 b_2 pf20 pf21 hr3 hb3
  have n_3 := ho3.strs
  clear ho3
  obtain ⟨pf30, pf31⟩ := id qf_3
  go_wp2_with fail
  (with_reducible refine (sameTexts_same A2 A3 c2 c3 (behOut ver ss nm) _ _ _ o_3 n_3).mono ?_)
  rintro e w4 ⟨rfl, hr4⟩
  have hb4 : Below w3.heap.size w3 w4 := hr4
  have st_4 := st_3.then_ hb4
  have o_4 := o_3.then_ hb4
  have n_4 := n_3.then_ hb4
  have qf_4 := qf_3.then_ hb4
  have b_4 := bthen b_3 hb4
  have z_4 := hb4.size
  clear st_3 o_3 n_3 qf_3 b_3 pf30 pf31 hr4 hb4
  by_cases hE : behOut ver ss nm = []
  · have e0 : (((behOut ver ss nm).length : Int) == 0) = true := by rw [hE]; rfl
    clear hE
    obtain ⟨pf40, pf41⟩ := id qf_4
    go_wp2_with fail
    (with_reducible refine (sameTexts_same A2 A3 c2 c3 (behOut ver ss nm) _ _ _ o_4 n_4).mono ?_)
    rintro e w5 ⟨rfl, hr5⟩
    have hb5 : Below w4.heap.size w4 w5 := hr5
    have st_5 := st_4.then_ hb5
    have o_5 := o_4.then_ hb5
    have n_5 := n_4.then_ hb5
    have qf_5 := qf_4.then_ hb5
    have b_5 := bthen b_4 hb5
    have z_5 := hb5.size
    clear st_4 o_4 n_4 qf_4 b_4 pf40 pf41 hr5 hb5
    go_wp2_with fail
    go_ret
    exact ⟨rfl, b_5⟩
  have e0 : (((behOut ver ss nm).length : Int) == 0) = false := beq_eq_false_iff_ne.2 (fun e => hE (List.eq_nil_of_length_eq_zero (by omega)))
  have hok : findB ver ss nm = true := by
    cases h : findB ver ss nm
    · exact absurd (behOut_no h) hE
    · rfl
  have hpos : 0 < (behOut ver ss nm).length := List.length_pos_iff.2 hE
  have Hord := Lib.hid (fun (x : ByteArray) (hx : x ∈ behOut ver ss nm) => beh_order hok hx)
  have Hoy := Lib.hid (orderOut_yes (findB_iff.1 hok).1)
  have Hge := Lib.hid (beh_order hok (List.getElem_mem hpos)).2
  clear hE hok hpos
  clear n_4
  obtain ⟨pf40, pf41⟩ := id qf_4
  go_wp2_with fail
  (with_reducible refine (iFlowOrder_any ver SA sc ss _ _ st_4 hss).mono ?_)
  rintro e w5 ⟨A5, c5, rfl, ho5, hr5⟩
  have hb5 : Below w4.heap.size w4 w5 := hr5
  have st_5 := st_4.then_ hb5
  have o_5 := o_4.then_ hb5
  have qf_5 := qf_4.then_ hb5
  have b_5 := bthen b_4 hb5
  have z_5 := hb5.size
  clear st_4 o_4 qf_4 b_4 pf40 pf41 hr5 hb5
  rw [Hoy.out] at ho5 ⊢
  have x_5 := ho5.strs
  clear ho5
  obtain ⟨pf50, pf51⟩ := id qf_5
  generalize behOut ver ss nm = xs at *
  have hol := o_5.len
  have hoc := o_5.cap
  have K1 := Lib.hid (placeOf_any A5 c5 (ord ss) nm w5 _ x_5)
  generalize place (ord ss) nm = P at *
  have hP := Hge.out
  have hPd : decide (0 ≤ P) = true := decide_eq_true hP
  go_wp2_with (go_at_call 21; (with_reducible refine K1.out.mono ?_); rintro e w' ⟨rfl, rfl⟩)
  go_loopw [9] (fun i wr => ∃ k : Nat, k ≤ xs.length ∧ i = .int .i64 k ∧ w5 = wr) (fun i _ => xs.length - (intOf i).toNat)
  case atStart => exact ⟨0, Nat.zero_le _, rfl, rfl⟩
  case round =>
    obtain ⟨k, hk, rfl, rfl⟩ := hrel
    by_cases hlt : k < xs.length
    · obtain ⟨ad, rfl, had, hc⟩ := o_5.at_ hlt
      have hi0 : (0 : Int) ≤ k := by omega
      have hi1 : (k : Int) < xs.length := by omega
      have hle := (Hord.out _ (List.getElem_mem hlt)).1
      have K2 := Lib.hid (placeOf_any A5 c5 (ord ss) xs[k] w5 _ x_5)
      generalize xs[k] = y at *
      generalize place (ord ss) y = Q at *
      have hQ : decide (Q ≤ P) = false := decide_eq_false (by omega)
      clear hle
      go_wp2_with (go_at_call 21; (with_reducible refine K2.out.mono ?_); rintro e w' ⟨rfl, rfl⟩)
      go_roundw
      case rel => exact ⟨k + 1, by omega, by go_num, trivial⟩
      case measure => simp [intOf]; omega
    · go_wp2_with fail
      go_ret
      exact ⟨rfl, b_5⟩

set_option maxRecDepth 100000 in
theorem fnBehindOrder_lifted (os : Os) (started : os.Started) (H : Type) (enc : TypeId × Value → H) :
    ReturnsInHanded {} Try.checked os 6 .any (Rows.fnBehindOrderSpec.pre6 enc Try.prog Try.f6 Rows.fnBehindOrderRow.domain false) (Rows.fnBehindOrderSpec.post enc Try.prog Try.f6 false true false false) := by
  refine returnsInHanded_of_change (C := Try.checked) own started (by kernel_rfl) Try.func6
    (ChangeSpec.witness6 (enc := enc) (C := Try.checked) false ⟨#[], #[.slice none 0 0], []⟩ 8 (by kernel_rfl) (by kernel_rfl) (by kernel_rfl) (by kernel_rfl)) ?_
  intro W base args ds gs before hval0 hW _ _
  have hval : ∀ (j : Nat) t v, Try.f6.params[j]? = some t → args[j]? = some v → Value.okWide Try.prog W .any base t v := hval0
  obtain ⟨p, q, hA0, hV, _⟩ := id hW
  have hA : DataW.TrodAll enc Try.prog W 0 (fun _ => true) true Try.f6.params.toList args.toList ds p := hA0
  rw [Try.params6] at hA hval
  obtain ⟨v0, d0, rfl, rfl, h0⟩ := trodAll_one hA
  obtain ⟨rfl, rfl⟩ := trodVars_none hV
  refine (behindOrder_law W v0 (arg_code (hval 0 _ v0 rfl rfl) h0)).mono fun e W' ⟨he, hw⟩ => ?_
  subst he
  exact ⟨_, rfl, law_post laidOut (readable_of (by kernel_rfl)) rfl Try.underlying4 rfl rfl rfl rfl hW hw⟩

theorem fnBehindOrder_holds : Rows.FnBehindOrderSaid :=
  OpenClaim.holds_of_wide 6 Try.f6 rfl rfl rfl rfl rfl rfl rfl ⟨rfl, rfl, rfl, rfl, rfl⟩ rfl rfl rfl rfl rfl (by kernel_rfl) Try.func6 (by kernel_rfl)
    (of_decide_eq_true (by kernel_rfl)) (by unfold Func.isWrapper; rw [if_neg (of_decide_eq_false (by kernel_rfl))]; exact ⟨rfl, rfl⟩)
    (fun os started H enc _ => fnBehindOrder_lifted os started H enc)

end Go.Proofs.Ytfkjcldaclkkaaa
