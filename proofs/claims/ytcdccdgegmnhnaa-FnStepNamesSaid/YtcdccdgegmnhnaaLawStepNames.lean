/- FnStepNames returns true for every code. No condition. -/
import Derived.Test.YtcdccdgegmnhnaaArgs
import Derived.Test.YtcdccdgegmnhnaaSortMore
import Derived.Test.YtcdccdgegmnhnaaDrawStepV
import Derived.Deep.QuietTactic
import Derived.BigQuiet
namespace Go.Proofs.Ytcdccdgegmnhnaa
set_option linter.unusedVariables false
set_option maxRecDepth 100000
open Go.ChangeShapes Go.WideShapes Go.ChangeAt Go.RowKit

theorem stepOk_parts {nm : ByteArray} {xs : List ByteArray} (h : stepOk nm xs = true) : nameOk nm = true ∧ asc xs = true ∧ has xs nm = false := by
  unfold stepOk at h
  simp only [Bool.and_eq_true, Bool.not_eq_true'] at h
  exact ⟨h.1.1.1, h.1.2, h.2⟩
theorem asc_names {xs : List ByteArray} (h : asc xs = true) : namesOk xs = true := namesOk_all fun j hj => (asc_iff.1 h j hj).1
theorem asc_sorted {xs : List ByteArray} (h : asc xs = true) : sortOut xs = xs := by
  rw [sortOut_yes (asc_names h)]
  refine srt_ext (srtOf_srt xs) (List.pairwise_iff_getElem.2 fun i j hi hj hij => asc_lt h j hj i hij) fun x => by rw [mem_srtOf]

set_option maxHeartbeats 8000000 in
theorem stepNames_law (W : World) (v : Value) (h : IsCode W v) : Calls Try.prog 7 #[v] W fun e W' => e = .returned (.bool true) ∧ Below W.heap.size W W' := by
  obtain ⟨A, c, zs, rfl, hz⟩ := h
  have hl := hz.len
  have hc := hz.cap
  by_cases h20 : 1048576 < zs.length
  · go_enter Try.func7, Try.ntmps7
    go_wp2
    go_ret
    exact ⟨rfl, Below.refl _ _⟩
  go_enter Try.func7, Try.ntmps7
  go_wp2_with fail
  (with_reducible refine (drawStepValid_any A c zs W hz).mono ?_)
  rintro e w1 ⟨nm, A1, c1, xs, u, rfl, hn6, s1, hx5, hx6, b1⟩
  have hn9 : nm.size ≤ 9223372036854775807 := by omega
  go_wp2_with fail
  (with_reducible refine (iStepValid_any nm A1 c1 xs u _ _ (s1.alloc (Nat.le_refl _) _) hn9).mono ?_)
  rintro e w2 ⟨rfl, hr2⟩
  have hb2 : Below w1.heap.size w1 w2 := bthen ((Below.refl _ _).alloc (Nat.le_refl _) _) hr2
  have s2 := s1.then_ hb2
  have q2 := (Cell3.new w1 (.string nm) (.slice A1 xs.length c1) (.bool u) 34).then_ hr2
  have b2 := bthen b1 hb2
  clear s1 b1 hr2 hb2
  obtain ⟨p0, p1, p2⟩ := id q2
  go_wp2_with fail
  (with_reducible refine (sStepValid_any nm A1 c1 xs u _ _ s2 hn9).mono ?_)
  rintro e w3 ⟨rfl, hb3⟩
  have s3 := s2.then_ hb3
  have q3 := q2.then_ hb3
  have b3 := bthen b2 hb3
  clear s2 b2 q2 hb3 p0 p1 p2
  have hql := q3.lt
  obtain ⟨p0, p1, p2⟩ := id q3
  cases hok : stepOk nm xs
  · clear hok
    go_wp2_with fail
    go_ret
    exact ⟨rfl, b3⟩
  have Hok := Lib.hid hok
  clear hok
  have hasc := (stepOk_parts Hok.out).2.1
  have hpl : place xs nm < 0 := by rw [place_notMem (has_notMem (stepOk_parts Hok.out).2.2)]; omega
  have K1 := Lib.hid (sort_K A1 c1 xs.length xs xs w3 _ s3 (by omega) rfl (asc_sorted hasc) (asc_names hasc))
  clear hasc Hok
  have hpd : decide (place xs nm < 0) = true := decide_eq_true hpl
  go_wp2_with fail
  (with_reducible refine K1.out.mono ?_)
  rintro e w4 ⟨A4, c4, rfl, ho4, hb4⟩
  have s4 := s3.then_ hb4
  have q4 := q3.then_ hb4
  have o4 := ho4.strs
  have b4 := bthen b3 hb4
  clear s3 b3 q3 hb4 p0 p1 p2 K1 ho4
  obtain ⟨p0, p1, p2⟩ := id q4
  go_wp2_with fail
  (with_reducible refine (sameTexts_same A4 A1 c4 c1 xs _ _ _ o4 s4).mono ?_)
  rintro e w5 ⟨rfl, hb5⟩
  have s5 := s4.then_ hb5
  have q5 := q4.then_ hb5
  have b5 := bthen b4 hb5
  clear s4 b4 q4 hb5 p0 p1 p2
  obtain ⟨p0, p1, p2⟩ := id q5
  have K2 := Lib.hid (placeOf_any A1 c1 xs nm w5 _ s5)
  generalize place xs nm = P at *
  go_wp2_with fail
  (with_reducible refine K2.out.mono ?_)
  rintro e w' ⟨rfl, rfl⟩
  go_wp2_with fail
  go_ret
  exact ⟨rfl, b5⟩

set_option maxRecDepth 100000 in
theorem fnStepNames_lifted (os : Os) (started : os.Started) (H : Type) (enc : TypeId × Value → H) :
    ReturnsInHanded {} Try.checked os 7 .any (Rows.fnStepNamesSpec.pre6 enc Try.prog Try.f7 Rows.fnStepNamesRow.domain false) (Rows.fnStepNamesSpec.post enc Try.prog Try.f7 false true false false) := by
  refine returnsInHanded_of_change (C := Try.checked) own started (by kernel_rfl) Try.func7
    (ChangeSpec.witness6 (enc := enc) (C := Try.checked) false ⟨#[], #[.slice none 0 0], []⟩ 8 (by kernel_rfl) (by kernel_rfl) (by kernel_rfl) (by kernel_rfl)) ?_
  intro W base args ds gs before hval0 hW _ _
  have hval : ∀ (j : Nat) t v, Try.f7.params[j]? = some t → args[j]? = some v → Value.okWide Try.prog W .any base t v := hval0
  obtain ⟨p, q, hA0, hV, _⟩ := id hW
  have hA : DataW.TrodAll enc Try.prog W 0 (fun _ => true) true Try.f7.params.toList args.toList ds p := hA0
  rw [Try.params7] at hA hval
  obtain ⟨v0, d0, rfl, rfl, h0⟩ := trodAll_one hA
  obtain ⟨rfl, rfl⟩ := trodVars_none hV
  refine (stepNames_law W v0 (arg_code (hval 0 _ v0 rfl rfl) h0)).mono fun e W' ⟨he, hw⟩ => ?_
  subst he
  exact ⟨_, rfl, law_post laidOut (readable_of (by kernel_rfl)) rfl Try.underlying4 rfl rfl rfl rfl hW hw⟩

theorem fnStepNames_holds : Rows.FnStepNamesSaid :=
  OpenClaim.holds_of_wide 7 Try.f7 rfl rfl rfl rfl rfl rfl rfl ⟨rfl, rfl, rfl, rfl, rfl⟩ rfl rfl rfl rfl rfl (by kernel_rfl) Try.func7 (by kernel_rfl)
    (of_decide_eq_true (by kernel_rfl)) (by unfold Func.isWrapper; rw [if_neg (of_decide_eq_false (by kernel_rfl))]; exact ⟨rfl, rfl⟩)
    (fun os started H enc _ => fnStepNames_lifted os started H enc)

end Go.Proofs.Ytcdccdgegmnhnaa
