/- FnStep returns true for every code. No condition. -/
import Derived.Test.YtcdccdgegmnhnaaArgs
import Derived.Test.YtcdccdgegmnhnaaSteps
import Derived.Test.YtcdccdgegmnhnaaDrawStepV
import Derived.Deep.QuietTactic
import Derived.BigQuiet
namespace Go.Proofs.Ytcdccdgegmnhnaa
set_option linter.unusedVariables false
set_option maxRecDepth 100000
open Go.ChangeShapes Go.WideShapes Go.ChangeAt Go.RowKit

theorem stepOk_self (nm : ByteArray) : stepOk nm [nm] = false := by
  unfold stepOk
  rw [has_yes (by simp : nm ∈ [nm])]
  simp
theorem stepOk_none {nm : ByteArray} {xs : List ByteArray} (h : stepOk nm xs = true) : stepOk nm [] = true := by
  unfold stepOk at h ⊢
  simp only [Bool.and_eq_true] at h
  rw [h.1.1.1]
  rfl

set_option maxHeartbeats 8000000 in
theorem step_law (W : World) (v : Value) (h : IsCode W v) : Calls Try.prog 8 #[v] W fun e W' => e = .returned (.bool true) ∧ Below W.heap.size W W' := by
  obtain ⟨A, c, zs, rfl, hz⟩ := h
  have hl := hz.len
  have hc := hz.cap
  by_cases h20 : 1048576 < zs.length
  · go_enter Try.func8, Try.ntmps8
    go_wp2
    go_ret
    exact ⟨rfl, Below.refl _ _⟩
  go_enter Try.func8, Try.ntmps8
  go_wp2_with fail
  (with_reducible refine (drawStepValid_any A c zs W hz).mono ?_)
  rintro e w1 ⟨nm, A1, c1, xs, u, rfl, hn6, s1, hx5, hx6, b1⟩
  have hn9 : nm.size ≤ 9223372036854775807 := by omega
  go_wp2_with fail
  (with_reducible refine (iStepValid_any nm A1 c1 xs u _ _ (s1.alloc (Nat.le_refl _) _) hn9).mono ?_)
  rintro e w2 ⟨rfl, hr2⟩
  have hb2 : Below w1.heap.size w1 w2 := bthen ((Below.refl _ _).alloc (Nat.le_refl _) _) hr2
  have s2 := s1.then_ hb2
  have q2 := (Cell3.new w1 (.string nm) (.slice A1 xs.length c1) (.bool u) 34).then_ hr2
  have b2 := bthen b1 hb2
  clear s1 b1 hr2 hb2
  obtain ⟨p0, p1, p2⟩ := id q2
  go_wp2_with fail
  (with_reducible refine (sStepValid_any nm A1 c1 xs u _ _ s2 hn9).mono ?_)
  rintro e w3 ⟨rfl, hb3⟩
  have s3 := s2.then_ hb3
  have q3 := q2.then_ hb3
  have b3 := bthen b2 hb3
  clear s2 b2 q2 hb3 p0 p1 p2
  have hql := q3.lt
  obtain ⟨p0, p1, p2⟩ := id q3
  cases hok : stepOk nm xs
  · clear hok
    go_wp2_with fail
    go_ret
    exact ⟨rfl, b3⟩
  have Hok := Lib.hid hok
  clear hok
  have hx := Lib.hid (stepOk_self nm)
  have hy := Lib.hid (stepOk_none Hok.out)
  clear Hok
  obtain ⟨oX, hoX⟩ : ∃ o, o = Obj.cells #[.string nm, .slice (some ⟨w3.heap.size + 1, 0, none⟩) 1 1, .bool u] 34 := ⟨_, rfl⟩
  obtain ⟨oY, hoY⟩ : ∃ o, o = Obj.cells #[.string nm, .slice (some ⟨w3.heap.size + 1 + 1 + 1, 0, none⟩) 0 0, .bool u] 34 := ⟨_, rfl⟩
  have hz1 : (w3.alloc oX).heap.size = w3.heap.size + 1 := by simp
  have hz2 : (((w3.alloc oX).alloc (.cells #[.string nm] 9)).alloc oY).heap.size = w3.heap.size + 1 + 1 + 1 := by simp
  have ox : OwnStrs ((w3.alloc oX).alloc (.cells #[.string nm] 9)) w3.heap.size (some ⟨w3.heap.size + 1, 0, none⟩) 1 [nm] := by
    rw [← hz1]
    exact ⟨World.ownsRow_lit (w3.alloc oX) #[.string nm] 1 (by rw [hz1]; omega) (by simp only [maxLen]; omega) rfl, fun x hx => by simp at hx; subst hx; exact hn9⟩
  have oy : OwnStrs ((((w3.alloc oX).alloc (.cells #[.string nm] 9)).alloc oY).alloc (.cells #[] 9)) w3.heap.size (some ⟨w3.heap.size + 1 + 1 + 1, 0, none⟩) 0 [] := by
    rw [← hz2]
    exact ⟨World.ownsRow_lit _ #[] 0 (by rw [hz2]; omega) (by simp only [maxLen]; omega) rfl, fun x hx => by cases hx⟩
  have sx := ((ox.alloc oY).alloc (.cells #[] 9)).strs
  have sy := oy.strs
  have hy3 : Cell3 (((w3.alloc oX).alloc (.cells #[.string nm] 9)).alloc oY) (w3.heap.size + 1 + 1) (.string nm) (.slice (some ⟨w3.heap.size + 1 + 1 + 1, 0, none⟩) 0 0) (.bool u) := by
    have := Cell3.new ((w3.alloc oX).alloc (.cells #[.string nm] 9)) (.string nm) (.slice (some ⟨w3.heap.size + 1 + 1 + 1, 0, none⟩) 0 0) (.bool u) 34
    rw [← hoY] at this
    simpa using this
  have hy4 := hy3.alloc (.cells #[] 9)
  have K1 : Calls Try.prog 23 #[.agg #[.string nm, .slice (some ⟨w3.heap.size + 1, 0, none⟩) 1 1, .bool u]] ((((w3.alloc oX).alloc (.cells #[.string nm] 9)).alloc oY).alloc (.cells #[] 9)) fun e w' => e = .returned (.bool false) ∧ Below ((((w3.alloc oX).alloc (.cells #[.string nm] 9)).alloc oY).alloc (.cells #[] 9)).heap.size ((((w3.alloc oX).alloc (.cells #[.string nm] 9)).alloc oY).alloc (.cells #[] 9)) w' := by
    rw [← hx.out]
    exact iStepValid_any nm (some ⟨w3.heap.size + 1, 0, none⟩) 1 [nm] u _ _ sx hn9
  have hbb : Below w3.heap.size w3 ((((w3.alloc oX).alloc (.cells #[.string nm] 9)).alloc oY).alloc (.cells #[] 9)) := ((((Below.refl _ _).alloc (Nat.le_refl _) _).alloc (by simp) _).alloc (by simp; omega) _).alloc (by simp; omega) _
  have K2 : ∀ w', Below ((((w3.alloc oX).alloc (.cells #[.string nm] 9)).alloc oY).alloc (.cells #[] 9)).heap.size ((((w3.alloc oX).alloc (.cells #[.string nm] 9)).alloc oY).alloc (.cells #[] 9)) w' → Cell3 w' (w3.heap.size + 1 + 1) (.string nm) (.slice (some ⟨w3.heap.size + 1 + 1 + 1, 0, none⟩) 0 0) (.bool u) ∧
      (Calls Try.prog 23 #[.agg #[.string nm, .slice (some ⟨w3.heap.size + 1 + 1 + 1, 0, none⟩) 0 0, .bool u]] w' fun e w'' => e = .returned (.bool true) ∧ Below w'.heap.size w' w'') ∧ Below W.heap.size W w' := fun w' hb =>
    ⟨hy4.then_ hb, by rw [← hy.out]; exact iStepValid_any nm (some ⟨w3.heap.size + 1 + 1 + 1, 0, none⟩) 0 [] u _ _ (sy.then_ hb) hn9, bthen (bthen b3 hbb) hb⟩
  subst hoX hoY
  have HK1 := Lib.hid K1
  have HK2 := Lib.hid K2
  clear K1 K2 hbb hy4 hy3 sx sy ox oy hz1 hz2
  go_wp2_with fail
  (with_reducible refine HK1.out.mono ?_)
  rintro e w4 ⟨rfl, hb4⟩
  obtain ⟨hc4, hk4, b4⟩ := HK2.out _ hb4
  obtain ⟨y0, y1, y2⟩ := hc4
  clear hb4 HK1 HK2
  go_wp2_with fail
  (with_reducible refine hk4.mono ?_)
  rintro e w5 ⟨rfl, hb5⟩
  go_wp2_with fail
  go_ret
  exact ⟨rfl, bthen b4 hb5⟩

set_option maxRecDepth 100000 in
theorem fnStep_lifted (os : Os) (started : os.Started) (H : Type) (enc : TypeId × Value → H) :
    ReturnsInHanded {} Try.checked os 8 .any (Rows.fnStepSpec.pre6 enc Try.prog Try.f8 Rows.fnStepRow.domain false) (Rows.fnStepSpec.post enc Try.prog Try.f8 false true false false) := by
  refine returnsInHanded_of_change (C := Try.checked) own started (by kernel_rfl) Try.func8
    (ChangeSpec.witness6 (enc := enc) (C := Try.checked) false ⟨#[], #[.slice none 0 0], []⟩ 8 (by kernel_rfl) (by kernel_rfl) (by kernel_rfl) (by kernel_rfl)) ?_
  intro W base args ds gs before hval0 hW _ _
  have hval : ∀ (j : Nat) t v, Try.f8.params[j]? = some t → args[j]? = some v → Value.okWide Try.prog W .any base t v := hval0
  obtain ⟨p, q, hA0, hV, _⟩ := id hW
  have hA : DataW.TrodAll enc Try.prog W 0 (fun _ => true) true Try.f8.params.toList args.toList ds p := hA0
  rw [Try.params8] at hA hval
  obtain ⟨v0, d0, rfl, rfl, h0⟩ := trodAll_one hA
  obtain ⟨rfl, rfl⟩ := trodVars_none hV
  refine (step_law W v0 (arg_code (hval 0 _ v0 rfl rfl) h0)).mono fun e W' ⟨he, hw⟩ => ?_
  subst he
  exact ⟨_, rfl, law_post laidOut (readable_of (by kernel_rfl)) rfl Try.underlying4 rfl rfl rfl rfl hW hw⟩

theorem fnStep_holds : Rows.FnStepSaid :=
  OpenClaim.holds_of_wide 8 Try.f8 rfl rfl rfl rfl rfl rfl rfl ⟨rfl, rfl, rfl, rfl, rfl⟩ rfl rfl rfl rfl rfl (by kernel_rfl) Try.func8 (by kernel_rfl)
    (of_decide_eq_true (by kernel_rfl)) (by unfold Func.isWrapper; rw [if_neg (of_decide_eq_false (by kernel_rfl))]; exact ⟨rfl, rfl⟩)
    (fun os started H enc _ => fnStep_lifted os started H enc)

end Go.Proofs.Ytcdccdgegmnhnaa
