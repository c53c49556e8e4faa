/- FnSortLess returns true for every code. No condition. -/
import Derived.Test.YtcdccdgegmnhnaaArgs
import Derived.Test.YtcdccdgegmnhnaaSortMore
import Derived.Deep.QuietTactic
import Derived.BigQuiet
namespace Go.Proofs.Ytcdccdgegmnhnaa
set_option linter.unusedVariables false
set_option maxRecDepth 100000
open Go.ChangeShapes Go.WideShapes Go.ChangeAt Go.RowKit

set_option maxHeartbeats 8000000 in
theorem sortLess_law (W : World) (v : Value) (h : IsCode W v) : Calls Try.prog 5 #[v] W fun e W' => e = .returned (.bool true) ∧ Below W.heap.size W W' := by
  obtain ⟨A, c, zs, rfl, hz⟩ := h
  have hl := hz.len
  have hc := hz.cap
  by_cases h20 : 1048576 < zs.length
  · go_enter Try.func5, Try.ntmps5
    go_wp2
    go_ret
    exact ⟨rfl, Below.refl _ _⟩
  go_enter Try.func5, Try.ntmps5
  go_wp2_with fail
  (with_reducible refine (drawNamesSort_any A c zs W hz).mono ?_)
  rintro e w1 ⟨A1, c1, xs, rfl, ho1, hx5, hx6, b1⟩
  have s1 := ho1.strs
  clear ho1
  go_wp2_with fail
  (with_reducible refine (iNamesSort_any A1 c1 xs _ _ s1 (by omega)).mono ?_)
  rintro e w2 ⟨A2, c2, rfl, ho2, hb2⟩
  have s2 := s1.then_ hb2
  have b2 := bthen b1 hb2
  have g2 := ho2.strs
  clear ho2 s1 b1 hb2
  go_wp2_with fail
  (with_reducible refine (sNamesSort_any A1 c1 xs _ _ s2 (by omega)).mono ?_)
  rintro e w3 ⟨A3, c3, rfl, ho3, hb3⟩
  have s3 := s2.then_ hb3
  have g3 := g2.then_ hb3
  have n3 := ho3.strs
  have b3 := bthen b2 hb3
  clear ho3 s2 g2 b2 hb3
  have hsl := sortOut_len xs
  cases hok : namesOk xs
  · clear hok
    go_wp2_with fail
    (with_reducible refine (sameTexts_same A2 A3 c2 c3 (sortOut xs) _ _ _ g3 n3).mono ?_)
    rintro e w4 ⟨rfl, hb4⟩
    have g4 := g3.then_ hb4
    have n4 := n3.then_ hb4
    go_wp2_with fail
    (with_reducible refine (sameTexts_same A2 A3 c2 c3 (sortOut xs) _ _ _ g4 n4).mono ?_)
    rintro e w5 ⟨rfl, hb5⟩
    go_wp2_with fail
    go_ret
    exact ⟨rfl, bthen (bthen b3 hb4) hb5⟩
  have Hok := Lib.hid hok
  clear hok
  go_wp2_with fail
  (with_reducible refine (sameTexts_same A2 A3 c2 c3 (sortOut xs) _ _ _ g3 n3).mono ?_)
  rintro e w4 ⟨rfl, hb4⟩
  have s4 := s3.then_ hb4
  have g4 := g3.then_ hb4
  have b4 := bthen b3 hb4
  have hgl := g4.len
  have hgc := g4.cap
  have hxl := s4.len
  have hxc := s4.cap
  clear s3 g3 n3 b3 hb4
  have Hfin := Lib.hid (And.intro (dup_yes Hok.out) (dup_no Hok.out))
  clear Hok
  go_wp2_with fail
  go_loopw [8, 9] (fun b i wr => ∃ k : Nat, k ≤ xs.length ∧ i = .int .i64 k ∧ b = .bool (dup xs k) ∧ w4 = wr) (fun _ i _ => xs.length - (intOf i).toNat)
  case atStart => exact ⟨0, Nat.zero_le _, rfl, rfl, rfl⟩
  case round =>
    obtain ⟨k, hk, rfl, rfl, rfl⟩ := hrel
    by_cases hlt : k < xs.length
    · obtain ⟨ad, rfl, had, hc1⟩ := s4.at_ hlt
      have hi0 : (0 : Int) ≤ k := by omega
      have hi1 : (k : Int) < xs.length := by omega
      have Hd := Lib.hid (dup_succ hlt)
      have KP := Lib.hid (placeOf_any (some ad) c1 xs xs[k] w4 _ s4)
      cases hd : dup xs k
      · have HN := Lib.hid (show dup xs (k + 1) = decide (place xs xs[k] < k) by rw [Hd.out, hd]; rfl)
        clear hd Hd
        generalize place xs xs[k] = P at *
        go_wp2_with (go_at_call 20; (with_reducible refine KP.out.mono ?_); rintro e w' ⟨rfl, rfl⟩)
        go_roundw
        case rel => exact ⟨k + 1, by omega, by go_num, by rw [HN.out], trivial⟩
        case measure => simp [intOf]; omega
      · have HN := Lib.hid (show dup xs (k + 1) = true by rw [Hd.out, hd]; rfl)
        clear hd Hd
        go_wp2_with fail
        go_roundw
        case rel => exact ⟨k + 1, by omega, by go_num, by rw [HN.out], trivial⟩
        case measure => simp [intOf]; omega
    · have hke : k = xs.length := by omega
      subst hke
      have hle : ((sortOut xs).length : Int) ≤ xs.length := by omega
      cases hd : dup xs xs.length
      · have heq := Hfin.out.2 hd
        have he : (((sortOut xs).length : Int) == (xs.length : Int)) = true := by simp [heq]
        have he2 : decide (((sortOut xs).length : Int) = (xs.length : Int)) = true := by simp [heq]
        clear heq
        have Hd := Lib.hid hd
        clear hd
        go_wp2_with fail
        go_ret
        first | exact ⟨rfl, b4⟩ | exact ⟨ret_bool (by simp_all), b4⟩
      · have heq := Hfin.out.1 hd
        have he : (((sortOut xs).length : Int) == (xs.length : Int)) = false := by simp; omega
        have he2 : decide (((sortOut xs).length : Int) = (xs.length : Int)) = false := by simp; omega
        have Hd := Lib.hid hd
        clear hd
        go_wp2_with fail
        go_ret
        first | exact ⟨rfl, b4⟩ | exact ⟨ret_bool (by simp_all), b4⟩

set_option maxRecDepth 100000 in
theorem fnSortLess_lifted (os : Os) (started : os.Started) (H : Type) (enc : TypeId × Value → H) :
    ReturnsInHanded {} Try.checked os 5 .any (Rows.fnSortLessSpec.pre6 enc Try.prog Try.f5 Rows.fnSortLessRow.domain false) (Rows.fnSortLessSpec.post enc Try.prog Try.f5 false true false false) := by
  refine returnsInHanded_of_change (C := Try.checked) own started (by kernel_rfl) Try.func5
    (ChangeSpec.witness6 (enc := enc) (C := Try.checked) false ⟨#[], #[.slice none 0 0], []⟩ 8 (by kernel_rfl) (by kernel_rfl) (by kernel_rfl) (by kernel_rfl)) ?_
  intro W base args ds gs before hval0 hW _ _
  have hval : ∀ (j : Nat) t v, Try.f5.params[j]? = some t → args[j]? = some v → Value.okWide Try.prog W .any base t v := hval0
  obtain ⟨p, q, hA0, hV, _⟩ := id hW
  have hA : DataW.TrodAll enc Try.prog W 0 (fun _ => true) true Try.f5.params.toList args.toList ds p := hA0
  rw [Try.params5] at hA hval
  obtain ⟨v0, d0, rfl, rfl, h0⟩ := trodAll_one hA
  obtain ⟨rfl, rfl⟩ := trodVars_none hV
  refine (sortLess_law W v0 (arg_code (hval 0 _ v0 rfl rfl) h0)).mono fun e W' ⟨he, hw⟩ => ?_
  subst he
  exact ⟨_, rfl, law_post laidOut (readable_of (by kernel_rfl)) rfl Try.underlying4 rfl rfl rfl rfl hW hw⟩

theorem fnSortLess_holds : Rows.FnSortLessSaid :=
  OpenClaim.holds_of_wide 5 Try.f5 rfl rfl rfl rfl rfl rfl rfl ⟨rfl, rfl, rfl, rfl, rfl⟩ rfl rfl rfl rfl rfl (by kernel_rfl) Try.func5 (by kernel_rfl)
    (of_decide_eq_true (by kernel_rfl)) (by unfold Func.isWrapper; rw [if_neg (of_decide_eq_false (by kernel_rfl))]; exact ⟨rfl, rfl⟩)
    (fun os started H enc _ => fnSortLess_lifted os started H enc)

end Go.Proofs.Ytcdccdgegmnhnaa
