/- FnSortTwice returns true for every code. No condition. -/
import Derived.Test.YtcdccdgegmnhnaaArgs
import Derived.Test.YtcdccdgegmnhnaaSortMore
import Derived.Deep.QuietTactic
import Derived.BigQuiet
namespace Go.Proofs.Ytcdccdgegmnhnaa
set_option linter.unusedVariables false
set_option maxRecDepth 100000
open Go.ChangeShapes Go.WideShapes Go.ChangeAt Go.RowKit

set_option maxHeartbeats 8000000 in
theorem sortTwice_law (W : World) (v : Value) (h : IsCode W v) : Calls Try.prog 3 #[v] W fun e W' => e = .returned (.bool true) ∧ Below W.heap.size W W' := by
  obtain ⟨A, c, zs, rfl, hz⟩ := h
  have hl := hz.len
  have hc := hz.cap
  by_cases h20 : 1048576 < zs.length
  · go_enter Try.func3, Try.ntmps3
    go_wp2
    go_ret
    exact ⟨rfl, Below.refl _ _⟩
  go_enter Try.func3, Try.ntmps3
  go_wp2_with fail
  (with_reducible refine (drawNamesSort_any A c zs W hz).mono ?_)
  rintro e w1 ⟨A1, c1, xs, rfl, ho1, hx5, hx6, b1⟩
  have s1 := ho1.strs
  clear ho1
  go_wp2_with fail
  (with_reducible refine (iNamesSort_any A1 c1 xs _ _ s1 (by omega)).mono ?_)
  rintro e w2 ⟨A2, c2, rfl, ho2, hb2⟩
  have s2 := s1.then_ hb2
  have b2 := bthen b1 hb2
  have g2 := ho2.strs
  clear ho2 s1 b1 hb2
  go_wp2_with fail
  (with_reducible refine (sNamesSort_any A1 c1 xs _ _ s2 (by omega)).mono ?_)
  rintro e w3 ⟨A3, c3, rfl, ho3, hb3⟩
  have s3 := s2.then_ hb3
  have g3 := g2.then_ hb3
  have n3 := ho3.strs
  have b3 := bthen b2 hb3
  clear ho3 s2 g2 b2 hb3
  have hsl := sortOut_len xs
  cases hok : namesOk xs
  · clear hok
    go_wp2_with fail
    (with_reducible refine (sameTexts_same A2 A3 c2 c3 (sortOut xs) _ _ _ g3 n3).mono ?_)
    rintro e w4 ⟨rfl, hb4⟩
    have g4 := g3.then_ hb4
    have n4 := n3.then_ hb4
    go_wp2_with fail
    (with_reducible refine (sameTexts_same A2 A3 c2 c3 (sortOut xs) _ _ _ g4 n4).mono ?_)
    rintro e w5 ⟨rfl, hb5⟩
    go_wp2_with fail
    go_ret
    exact ⟨rfl, bthen (bthen b3 hb4) hb5⟩
  have Hok := Lib.hid hok
  clear hok
  go_wp2_with fail
  (with_reducible refine (sameTexts_same A2 A3 c2 c3 (sortOut xs) _ _ _ g3 n3).mono ?_)
  rintro e w4 ⟨rfl, hb4⟩
  have s4 := s3.then_ hb4
  have g4 := g3.then_ hb4
  have b4 := bthen b3 hb4
  have hgl := g4.len
  have hgc := g4.cap
  have hxl := s4.len
  have hxc := s4.cap
  clear s3 g3 n3 b3 hb4
  have HT := Lib.hid (And.intro (sort_twice Hok.out) (sortOk Hok.out))
  have HR := Lib.hid (And.intro (sort_rev Hok.out) (revOk Hok.out))
  clear Hok
  have oz := own_lit0 w4 w4.heap.size (Nat.le_refl _)
  go_wp2_with fail
  go_loopw [8, 9] (fun o i wr => ∃ (m : Nat) (A' : Option Addr) (c' : Nat) (ys : List ByteArray), m ≤ xs.length ∧ i = .int .i64 ((m : Int) - 1) ∧ o = .slice A' ys.length c' ∧ OwnStrs wr w4.heap.size A' c' ys ∧ Below w4.heap.size w4 wr ∧ Hid (ys = (xs.drop m).reverse)) (fun _ i _ => (intOf i + 1).toNat)
  case atStart => exact ⟨xs.length, some ⟨w4.heap.size, 0, none⟩, 0, [], Nat.le_refl _, by first | rfl | go_num, rfl, oz, (Below.refl _ _).alloc (Nat.le_refl _) _, Lib.hid (by simp)⟩
  case round =>
    clear oz
    obtain ⟨m, A', c', ys, hm, rfl, rfl, ho, hb, hy⟩ := hrel
    have hbs := hb.size
    have hyl : ys.length = xs.length - m := by rw [hy.out]; simp
    rcases m with _ | m
    · have hy0 : ys = xs.reverse := by rw [hy.out]; simp
      have hyn : ys.length = xs.length := by omega
      have gr := g4.then_ hb
      clear hy
      have K1 := sort_K A2 c2 (sortOut xs).length (sortOut xs) (sortOut xs) wr _ gr (by omega) rfl HT.out.1 HT.out.2
      go_wp2_with fail
      (with_reducible refine K1.mono ?_)
      rintro e w5 ⟨A5, c5, rfl, ho5, hb5⟩
      have gr5 := gr.then_ hb5
      have g5 := ho5.strs
      have y5 := ho.strs.then_ hb5
      have b5 := bthen (bthen b4 hb) hb5
      clear ho5 K1
      have K2 := sort_K A' c' ys.length ys (sortOut xs) w5 _ y5 (by omega) rfl (by rw [hy0]; exact HR.out.1) (by rw [hy0]; exact HR.out.2)
      clear hy0 hyn hyl HR HT ho
      go_wp2_with fail
      (with_reducible refine K2.mono ?_)
      rintro e w6 ⟨A6, c6, rfl, ho6, hb6⟩
      have gr6 := gr5.then_ hb6
      have g6 := g5.then_ hb6
      have h6 := ho6.strs
      have b6 := bthen b5 hb6
      clear ho6 K2 g5 y5 gr5
      go_wp2_with fail
      (with_reducible refine (sameTexts_same A5 A2 c5 c2 (sortOut xs) _ _ _ g6 gr6).mono ?_)
      rintro e w7 ⟨rfl, hb7⟩
      have gr7 := gr6.then_ hb7
      have h7 := h6.then_ hb7
      go_wp2_with fail
      (with_reducible refine (sameTexts_same A6 A2 c6 c2 (sortOut xs) _ _ _ h7 gr7).mono ?_)
      rintro e w8 ⟨rfl, hb8⟩
      go_wp2_with fail
      go_ret
      exact ⟨rfl, bthen (bthen b6 hb7) hb8⟩
    · have hme : (((m + 1 : Nat) : Int) - 1) = (m : Int) := by omega
      rw [hme]
      clear hme
      have hlt : m < xs.length := by omega
      obtain ⟨ad, rfl, had, hc1⟩ := (s4.then_ hb).at_ hlt
      have hxs := s4.lens m hlt
      have hi0 : (0 : Int) ≤ m := by omega
      have hi1 : (m : Int) < xs.length := by omega
      have ho2 := ho.alloc (.cells #[.string xs[m]] 9)
      have HY := Lib.hid (show ys ++ [xs[m]] = (xs.drop m).reverse by rw [hy.out, List.drop_eq_getElem_cons hlt, List.reverse_cons])
      have hy5 : ys.length ≤ 5 := by omega
      clear hy hyl
      go_wp2_with (at_builtin; (refine wpList_append_name _ rfl (.tmp 58) (.tmp 63) rfl w4.heap.size A' c' _ rfl ho2 ⟨wr.heap.size, 0, none⟩ 1 xs[m] rfl (cell_new1 _ _ _) hxs (by omega) (by simp; omega) ?_); intro A9 c9 w9 hap)
      go_roundw
      case rel => exact ⟨m, A9, c9, ys ++ [xs[m]], by omega, by first | rfl | go_num, by simp, hap.own, (hb.alloc hbs _).trans hap.low, HY⟩
      case measure => simp [intOf] <;> omega

set_option maxRecDepth 100000 in
theorem fnSortTwice_lifted (os : Os) (started : os.Started) (H : Type) (enc : TypeId × Value → H) :
    ReturnsInHanded {} Try.checked os 3 .any (Rows.fnSortTwiceSpec.pre6 enc Try.prog Try.f3 Rows.fnSortTwiceRow.domain false) (Rows.fnSortTwiceSpec.post enc Try.prog Try.f3 false true false false) := by
  refine returnsInHanded_of_change (C := Try.checked) own started (by kernel_rfl) Try.func3
    (ChangeSpec.witness6 (enc := enc) (C := Try.checked) false ⟨#[], #[.slice none 0 0], []⟩ 8 (by kernel_rfl) (by kernel_rfl) (by kernel_rfl) (by kernel_rfl)) ?_
  intro W base args ds gs before hval0 hW _ _
  have hval : ∀ (j : Nat) t v, Try.f3.params[j]? = some t → args[j]? = some v → Value.okWide Try.prog W .any base t v := hval0
  obtain ⟨p, q, hA0, hV, _⟩ := id hW
  have hA : DataW.TrodAll enc Try.prog W 0 (fun _ => true) true Try.f3.params.toList args.toList ds p := hA0
  rw [Try.params3] at hA hval
  obtain ⟨v0, d0, rfl, rfl, h0⟩ := trodAll_one hA
  obtain ⟨rfl, rfl⟩ := trodVars_none hV
  refine (sortTwice_law W v0 (arg_code (hval 0 _ v0 rfl rfl) h0)).mono fun e W' ⟨he, hw⟩ => ?_
  subst he
  exact ⟨_, rfl, law_post laidOut (readable_of (by kernel_rfl)) rfl Try.underlying4 rfl rfl rfl rfl hW hw⟩

theorem fnSortTwice_holds : Rows.FnSortTwiceSaid :=
  OpenClaim.holds_of_wide 3 Try.f3 rfl rfl rfl rfl rfl rfl rfl ⟨rfl, rfl, rfl, rfl, rfl⟩ rfl rfl rfl rfl rfl (by kernel_rfl) Try.func3 (by kernel_rfl)
    (of_decide_eq_true (by kernel_rfl)) (by unfold Func.isWrapper; rw [if_neg (of_decide_eq_false (by kernel_rfl))]; exact ⟨rfl, rfl⟩)
    (fun os started H enc _ => fnSortTwice_lifted os started H enc)

end Go.Proofs.Ytcdccdgegmnhnaa
