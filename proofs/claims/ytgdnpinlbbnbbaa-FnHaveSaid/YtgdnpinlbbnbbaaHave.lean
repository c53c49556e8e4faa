/- FnHave returns true for every code. No condition. -/
import Derived.Test.YtgdnpinlbbnbbaaArgs
import Derived.Test.YtgdnpinlbbnbbaaNames
import Derived.Test.YtgdnpinlbbnbbaaDrawLists
namespace Go.Proofs.Ytgdnpinlbbnbbaa
set_option linter.unusedVariables false
open Go.ChangeShapes Go.WideShapes Go.ChangeAt Go.RowKit

theorem haveAll_take_succ {xs ys : List ByteArray} {k : Nat} (hk : k < ys.length) : haveAll xs (ys.take (k + 1)) = (haveAll xs (ys.take k) && has xs ys[k]) := by
  unfold haveAll
  rw [List.take_succ_eq_append_getElem hk, List.all_append]
  simp

set_option maxHeartbeats 400000 in
theorem placeOf_any (A : Option Addr) (c : Nat) (xs : List ByteArray) (s : ByteArray) (w : World) (B : Nat) (h : Strs w B A c xs) :
    Calls Try.prog 25 #[.slice A xs.length c, .string s] w fun e w' => e = .returned (.int .i64 (place xs s)) ∧ w = w' := by
  have hl := h.len
  have hc := h.cap
  go_enter Try.func25, Try.ntmps25
  go_wp2
  go_loop [5] (fun i => ∃ k : Nat, k ≤ xs.length ∧ i = .int .i64 k ∧ ∀ j (hj : j < xs.length), j < k → xs[j] ≠ s) (fun i => xs.length - (intOf i).toNat)
  case atStart => exact ⟨0, Nat.zero_le _, rfl, fun j hj h => absurd h (by omega)⟩
  case round =>
    obtain ⟨k, hk, rfl, hall0⟩ := hrel
    have hall := Lib.hid hall0
    clear hall0
    by_cases hlt : k < xs.length
    · obtain ⟨ad, rfl, _, hcell⟩ := h.at_ hlt
      go_wp2
      · have he := str_eq (by assumption : (xs[k].toList == s.toList) = true)
        go_ret
        exact ⟨ret_int (place_at hlt he (fun j hj h => hall.out j hj h)).symm, rfl⟩
      · have he := str_ne (by assumption : (xs[k].toList == s.toList) = false)
        go_round
        case rel => exact ⟨k + 1, by omega, by go_num, fun j hj h => by
          by_cases e : j = k
          · subst e; exact he
          · exact hall.out j hj (by omega)⟩
        case measure => simp [intOf]; omega
    · go_wp2
      go_ret
      exact ⟨ret_int (place_none (fun j hj => hall.out j hj (by omega))).symm, rfl⟩

set_option maxHeartbeats 1000000 in
theorem have_law (W : World) (v : Value) (h : IsCode W v) : Calls Try.prog 9 #[v] W fun e W' => e = .returned (.bool true) ∧ Below W.heap.size W W' := by
  obtain ⟨A, c, zs, rfl, hz⟩ := h
  have hl := hz.len
  have hc := hz.cap
  by_cases h20 : 1048576 < zs.length
  · go_enter Try.func9, Try.ntmps9
    go_wp2
    go_ret
    exact ⟨rfl, Below.refl _ _⟩
  · go_enter Try.func9, Try.ntmps9
    go_wp2_with fail
    (with_reducible refine (drawNamesHave_any A c zs W hz).mono ?_)
    rintro e w1 ⟨A1, A2, c1, c2, xs, ys, rfl, ho1, ho2, hx5, hy5, hx6, hy6, hb⟩
    have hs1 := ho1.strs
    have hs2 := ho2.strs
    go_wp2_with fail
    (with_reducible refine (iNamesHave_any A1 A2 c1 c2 xs ys _ _ _ hs1 hs2).mono ?_)
    rintro e w' ⟨rfl, rfl⟩
    go_wp2_with fail
    (with_reducible refine (sNamesHave_any A1 A2 c1 c2 xs ys _ _ _ hs1 hs2).mono ?_)
    rintro e w' ⟨rfl, rfl⟩
    have hl2 := hs2.len
    have hc2 := hs2.cap
    go_wp2_with fail
    go_loop [7, 8] (fun b i => ∃ k : Nat, k ≤ ys.length ∧ i = .int .i64 k ∧ b = .bool (haveAll xs (ys.take k))) (fun _ i => ys.length - (intOf i).toNat)
    case atStart => exact ⟨0, Nat.zero_le _, rfl, by simp [haveAll]⟩
    case round =>
      obtain ⟨k, hk, rfl, rfl⟩ := hrel
      by_cases hlt : k < ys.length
      · obtain ⟨ad, rfl, _, hcell⟩ := hs2.at_ hlt
        have hts := Lib.hid (haveAll_take_succ (xs := xs) hlt)
        have hpl := Lib.hid (has_place xs ys[k])
        cases hb0 : haveAll xs (ys.take k)
        · go_wp2_with fail
          go_round
          case rel => exact ⟨k + 1, by omega, by go_num, by rw [hts.out, hb0]; rfl⟩
          case measure => simp [intOf]; omega
        · go_wp2_with fail
          (with_reducible refine (placeOf_any _ _ xs ys[k] _ _ hs1).mono ?_)
          rintro e w' ⟨rfl, rfl⟩
          go_wp2_with fail
          go_round
          case rel => exact ⟨k + 1, by omega, by go_num, by rw [hts.out, hpl.out, hb0]; rfl⟩
          case measure => simp [intOf]; omega
      · have e : ys.take k = ys := List.take_of_length_le (by omega)
        rw [e]
        go_wp2_with fail
        go_ret
        exact ⟨ret_bool (by simp), hb⟩

set_option maxRecDepth 100000 in
theorem fnHave_lifted (os : Os) (started : os.Started) (H : Type) (enc : TypeId × Value → H) :
    ReturnsInHanded {} Try.checked os 9 .any (Rows.fnHaveSpec.pre6 enc Try.prog Try.f9 Rows.fnHaveRow.domain false) (Rows.fnHaveSpec.post enc Try.prog Try.f9 false true false false) := by
  refine returnsInHanded_of_change (C := Try.checked) own started (by kernel_rfl) Try.func9
    (ChangeSpec.witness6 (enc := enc) (C := Try.checked) false ⟨#[], #[.slice none 0 0], []⟩ 8 (by kernel_rfl) (by kernel_rfl) (by kernel_rfl) (by kernel_rfl)) ?_
  intro W base args ds gs before hval0 hW _ _
  have hval : ∀ (j : Nat) t v, Try.f9.params[j]? = some t → args[j]? = some v → Value.okWide Try.prog W .any base t v := hval0
  obtain ⟨p, q, hA0, hV, _⟩ := id hW
  have hA : DataW.TrodAll enc Try.prog W 0 (fun _ => true) true Try.f9.params.toList args.toList ds p := hA0
  rw [Try.params9] at hA hval
  obtain ⟨v0, d0, rfl, rfl, h0⟩ := trodAll_one hA
  obtain ⟨rfl, rfl⟩ := trodVars_none hV
  refine (have_law W v0 (arg_code (hval 0 _ v0 rfl rfl) h0)).mono fun e W' ⟨he, hw⟩ => ?_
  subst he
  exact ⟨_, rfl, law_post laidOut (readable_of (by kernel_rfl)) rfl Try.underlying4 rfl rfl rfl rfl hW hw⟩

theorem fnHave_holds : Rows.FnHaveSaid :=
  OpenClaim.holds_of_wide 9 Try.f9 rfl rfl rfl rfl rfl rfl rfl ⟨rfl, rfl, rfl, rfl, rfl⟩ rfl rfl rfl rfl rfl (by kernel_rfl) Try.func9 (by kernel_rfl)
    (of_decide_eq_true (by kernel_rfl)) (by unfold Func.isWrapper; rw [if_neg (of_decide_eq_false (by kernel_rfl))]; exact ⟨rfl, rfl⟩)
    (fun os started H enc _ => fnHave_lifted os started H enc)

end Go.Proofs.Ytgdnpinlbbnbbaa
