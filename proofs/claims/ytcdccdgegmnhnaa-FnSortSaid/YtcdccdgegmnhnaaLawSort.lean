/- FnSort returns true for every code. No condition. -/
import Derived.Test.YtcdccdgegmnhnaaArgs
import Derived.Test.YtcdccdgegmnhnaaSortMore
import Derived.Deep.QuietTactic
import Derived.BigQuiet
namespace Go.Proofs.Ytcdccdgegmnhnaa
set_option linter.unusedVariables false
set_option maxRecDepth 100000
open Go.ChangeShapes Go.WideShapes Go.ChangeAt Go.RowKit

set_option maxHeartbeats 8000000 in
theorem sort_law (W : World) (v : Value) (h : IsCode W v) : Calls Try.prog 6 #[v] W fun e W' => e = .returned (.bool true) ∧ Below W.heap.size W W' := by
  obtain ⟨A, c, zs, rfl, hz⟩ := h
  have hl := hz.len
  have hc := hz.cap
  by_cases h20 : 1048576 < zs.length
  · go_enter Try.func6, Try.ntmps6
    go_wp2
    go_ret
    exact ⟨rfl, Below.refl _ _⟩
  go_enter Try.func6, Try.ntmps6
  go_wp2_with fail
  (with_reducible refine (drawNamesSort_any A c zs W hz).mono ?_)
  rintro e w1 ⟨A1, c1, xs, rfl, ho1, hx5, hx6, b1⟩
  have s1 := ho1.strs
  clear ho1
  go_wp2_with fail
  (with_reducible refine (iNamesSort_any A1 c1 xs _ _ s1 (by omega)).mono ?_)
  rintro e w2 ⟨A2, c2, rfl, ho2, hb2⟩
  have s2 := s1.then_ hb2
  have b2 := bthen b1 hb2
  have g2 := ho2.strs
  clear ho2 s1 b1 hb2
  go_wp2_with fail
  (with_reducible refine (sNamesSort_any A1 c1 xs _ _ s2 (by omega)).mono ?_)
  rintro e w3 ⟨A3, c3, rfl, ho3, hb3⟩
  have s3 := s2.then_ hb3
  have g3 := g2.then_ hb3
  have n3 := ho3.strs
  have b3 := bthen b2 hb3
  clear ho3 s2 g2 b2 hb3
  have hsl := sortOut_len xs
  cases hok : namesOk xs
  · clear hok
    go_wp2_with fail
    (with_reducible refine (sameTexts_same A2 A3 c2 c3 (sortOut xs) _ _ _ g3 n3).mono ?_)
    rintro e w4 ⟨rfl, hb4⟩
    have g4 := g3.then_ hb4
    have n4 := n3.then_ hb4
    go_wp2_with fail
    (with_reducible refine (sameTexts_same A2 A3 c2 c3 (sortOut xs) _ _ _ g4 n4).mono ?_)
    rintro e w5 ⟨rfl, hb5⟩
    go_wp2_with fail
    go_ret
    exact ⟨rfl, bthen (bthen b3 hb4) hb5⟩
  have Hok := Lib.hid hok
  clear hok
  go_wp2_with fail
  (with_reducible refine (sameTexts_same A2 A3 c2 c3 (sortOut xs) _ _ _ g3 n3).mono ?_)
  rintro e w4 ⟨rfl, hb4⟩
  have s4 := s3.then_ hb4
  have g4 := g3.then_ hb4
  have b4 := bthen b3 hb4
  have hgl := g4.len
  have hgc := g4.cap
  have hxl := s4.len
  have hxc := s4.cap
  clear s3 g3 n3 b3 hb4
  have Hup := Lib.hid (show ∀ (k : Nat) (h1 : k - 1 < (sortOut xs).length) (hk : k < (sortOut xs).length), 0 < k → blt ((sortOut xs)[k - 1]'h1) ((sortOut xs)[k]'hk) = true from fun k h1 hk h0 => sort_up Hok.out h0 hk)
  have hh1 := sort_has Hok.out
  have hh2 := sort_had Hok.out
  have K1 := fun w (h : Strs w w4.heap.size A2 c2 (sortOut xs)) (h' : Strs w w4.heap.size A1 c1 xs) => have_K A2 A1 c2 c1 (sortOut xs) xs w _ _ h h' hh1
  have K2 := fun w (h : Strs w w4.heap.size A2 c2 (sortOut xs)) (h' : Strs w w4.heap.size A1 c1 xs) => have_K A1 A2 c1 c2 xs (sortOut xs) w _ _ h' h hh2
  have HK1 := Lib.hid K1
  have HK2 := Lib.hid K2
  clear hh1 hh2 K1 K2 Hok hsl
  generalize sortOut xs = os at *
  go_wp2_with fail
  go_loopw [8] (fun i wr => ∃ k : Nat, 1 ≤ k ∧ k ≤ os.length + 1 ∧ i = .int .i64 k ∧ Below w4.heap.size w4 wr) (fun i _ => os.length + 1 - (intOf i).toNat)
  case atStart => exact ⟨1, Nat.le_refl _, by omega, rfl, Below.refl _ _⟩
  case round =>
    obtain ⟨k, hk1, hk, rfl, hb⟩ := hrel
    have gr := g4.then_ hb
    have sr := s4.then_ hb
    by_cases hlt : k < os.length
    · obtain ⟨ad, rfl, had, hc1⟩ := gr.at_ hlt
      obtain ⟨ad', e, _, hc0⟩ := gr.at_ (show k - 1 < os.length by omega)
      injection e with e
      subst e
      have hi0 : (0 : Int) ≤ k := by omega
      have hi1 : (k : Int) < os.length := by omega
      have hj1 : (0 : Int) ≤ (k : Int) - 1 := by omega
      have hj2 : (1 : Int) ≤ k := by omega
      have hj3 : (k : Int) - 1 < os.length := by omega
      have hj4 : IntKind.i64.wrap ((k : Int) - 1) = (k : Int) - 1 := IntWalk.i64_in _ (by omega)
      have hj5 : ((k : Int) - 1).toNat = k - 1 := by omega
      have hge : Op.bytesLess (os[k - 1]'(by omega)).toList os[k].toList = true := Hup.out k (by omega) hlt (by omega)
      go_wp2_with fail
      go_quiet (fail)
      go_wp2_with fail
      go_roundw
      case rel => exact ⟨k + 1, by omega, by omega, by go_num, bdrewN hb _⟩
      case measure => simp [intOf]; omega
    · have hge : (os.length : Int) ≤ k := by omega
      go_wp2_with fail
      (with_reducible refine (HK1.out _ gr sr).mono ?_)
      rintro e w' ⟨rfl, rfl⟩
      go_wp2_with fail
      (with_reducible refine (HK2.out _ gr sr).mono ?_)
      rintro e w' ⟨rfl, rfl⟩
      go_wp2_with fail
      go_ret
      exact ⟨rfl, bthen b4 hb⟩

set_option maxRecDepth 100000 in
theorem fnSort_lifted (os : Os) (started : os.Started) (H : Type) (enc : TypeId × Value → H) :
    ReturnsInHanded {} Try.checked os 6 .any (Rows.fnSortSpec.pre6 enc Try.prog Try.f6 Rows.fnSortRow.domain false) (Rows.fnSortSpec.post enc Try.prog Try.f6 false true false false) := by
  refine returnsInHanded_of_change (C := Try.checked) own started (by kernel_rfl) Try.func6
    (ChangeSpec.witness6 (enc := enc) (C := Try.checked) false ⟨#[], #[.slice none 0 0], []⟩ 8 (by kernel_rfl) (by kernel_rfl) (by kernel_rfl) (by kernel_rfl)) ?_
  intro W base args ds gs before hval0 hW _ _
  have hval : ∀ (j : Nat) t v, Try.f6.params[j]? = some t → args[j]? = some v → Value.okWide Try.prog W .any base t v := hval0
  obtain ⟨p, q, hA0, hV, _⟩ := id hW
  have hA : DataW.TrodAll enc Try.prog W 0 (fun _ => true) true Try.f6.params.toList args.toList ds p := hA0
  rw [Try.params6] at hA hval
  obtain ⟨v0, d0, rfl, rfl, h0⟩ := trodAll_one hA
  obtain ⟨rfl, rfl⟩ := trodVars_none hV
  refine (sort_law W v0 (arg_code (hval 0 _ v0 rfl rfl) h0)).mono fun e W' ⟨he, hw⟩ => ?_
  subst he
  exact ⟨_, rfl, law_post laidOut (readable_of (by kernel_rfl)) rfl Try.underlying4 rfl rfl rfl rfl hW hw⟩

theorem fnSort_holds : Rows.FnSortSaid :=
  OpenClaim.holds_of_wide 6 Try.f6 rfl rfl rfl rfl rfl rfl rfl ⟨rfl, rfl, rfl, rfl, rfl⟩ rfl rfl rfl rfl rfl (by kernel_rfl) Try.func6 (by kernel_rfl)
    (of_decide_eq_true (by kernel_rfl)) (by unfold Func.isWrapper; rw [if_neg (of_decide_eq_false (by kernel_rfl))]; exact ⟨rfl, rfl⟩)
    (fun os started H enc _ => fnSort_lifted os started H enc)

end Go.Proofs.Ytcdccdgegmnhnaa
